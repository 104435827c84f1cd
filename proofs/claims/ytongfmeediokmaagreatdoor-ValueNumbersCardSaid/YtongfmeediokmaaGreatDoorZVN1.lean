/- A part of the proof of the law that RowValueNumbers shows: lemmas, and contracts of the calls that it reaches. -/
import Derived.Test.YtongfmeediokmaaGreatDoorProg
import Derived.Below
import Derived.Deep.Draws
import Derived.Deep.AppendLies
import Derived.Maps.AppendAt
import Derived.OwnWalk
import Derived.Laws.BytesArg
import Derived.Laws.MakeOwn
import Derived.Laws.OwnMore
import Derived.Deep.OwnRows
import Derived.Tactics
import Derived.Lib.ConvBytes
import Derived.Laws.Slices
import Derived.WalkKit
import Derived.KernelRfl
import Derived.RowKit3
import Derived.Deep.LoopGhost
import Derived.Deep.QuietTactic
import Derived.BigQuiet
import Derived.WideLaws
import Derived.Deep.DeepCutAuto
import Derived.Deep.CutBlock
import Derived.Deep.RegionHeld3
import Derived.Laws.Rows
import Derived.Lib.AppendStr
import Derived.ArgAppend
import Derived.Laws.IdiomCopy
import Derived.OrdersHeld
import Derived.Laws.BitsLemmas
import Derived.RowKit
import Derived.Test.YtongfmeediokmaaGreatDoorZVN0
import Derived.WalkLawsBesides
import Derived.Lib.SliceRun
import Derived.Laws.Externs
import Derived.Shelf.Lay
import Derived.Shelf.Strconv.Itoa0
import Derived.Shelf.Small.Bits
import Derived.Shelf.LaysM
import Derived.Shelf.Strconv.Itoa3
import Derived.Shelf.Strings.Repeat
import Derived.Shelf.Strings.Trim
set_option linter.unusedVariables false
set_option linter.unusedSimpArgs false
section
namespace Go.Proofs.YtongfmeediokmaaGreatDoor.Pr
open Go.RowKit Go.Proofs.YtongfmeediokmaaGreatDoorW.PrintWords Go.Proofs.YtongfmeediokmaaGreatDoorW.PrintLast Go.Proofs.YtongfmeediokmaaGreatDoorW.PrintMore
attribute [local go_sem] zXc zXa zXm zXl zQO zQN zXb zQZ
def errW : Option Int → Value
  | none => .nilIface
  | some c => .iface 0 (.int .i64 c)
theorem errW_none : errW none = .nilIface := rfl
theorem errW_some (c : Int) : errW (some c) = .iface 0 (.int .i64 c) := rfl
theorem info5 : (Tryz.prog.info? 5).map (fun i => (i.zero,i.size,i.bytes)) = some (some (.int .u8 0),1,1) := by kernel_rfl
theorem zXP : (Tryz.prog.info? 22).map (fun i => (i.zero,i.size,i.bytes)) = some (some (.int .u64 0),1,8) := by kernel_rfl
theorem zXO : (Tryz.prog.info? 72).map (fun i => (i.zero,i.size,i.bytes)) = some (some (.int .u32 0),1,4) := by kernel_rfl
def rd_L1 (xs : List (List Int)) (i : Int) : (List Int) := xs.getD i.toNat ([] : List Int)
def rd_L5 (xs : List (List (List Int))) (i : Int) : (List (List Int)) := xs.getD i.toNat ([] : List (List Int))
structure S25 where
  f0 : Int
  f1 : Int
  f2 : ByteArray
  f3 : Int
def z25 : S25 := ⟨(0 : Int),(0 : Int),(⟨#[]⟩ : ByteArray),(0 : Int)⟩
def k25 : Kd S25 := Kd.iso (Kd.pair (Kd.int .i64) (Kd.pair (Kd.int .u64) (Kd.pair Kd.string (Kd.int .i64)))) (fun x : S25 => (x.f0,x.f1,x.f2,x.f3))
def zTn (xs : List S25) (i : Int) : S25 := xs.getD i.toNat z25
end Go.Proofs.YtongfmeediokmaaGreatDoor.Pr
end
section
namespace Go.Proofs.YtongfmeediokmaaGreatDoor.Flo
open Go Ieee
def rung (a : Nat) : Nat := a % 9223372036854775808
def nanB (a : Nat) : Bool := decide (9218868437227405312 < rung a)
def infB (a : Nat) : Bool := decide (rung a = 9218868437227405312)
theorem zJQ (a : Nat) : double.read a = if rung a < 4503599627370496 then .number (a / 9223372036854775808 % 2 == 1) (rung a) (-1074) else if rung a < 9218868437227405312 then .number (a / 9223372036854775808 % 2 == 1) (4503599627370496 + rung a % 4503599627370496) (-1074 + ((rung a / 4503599627370496 - 1 : Nat) : Int)) else if rung a = 9218868437227405312 then .infinity (a / 9223372036854775808 % 2 == 1) else .nan (a / 9223372036854775808 % 2 == 1) (rung a - 9218868437227405312) := rfl
theorem zBr {a : Nat} (h : nanB a = true) : double.read a = .nan (a / 9223372036854775808 % 2 == 1) (rung a - 9218868437227405312) := by
 have h := of_decide_eq_true h;rw [zJQ,if_neg (by omega),if_neg (by omega),if_neg (by omega)]
theorem zZl {a : Nat} (h : infB a = true) : double.read a = .infinity (a / 9223372036854775808 % 2 == 1) := by
 have h := of_decide_eq_true h;rw [zJQ,if_neg (by omega),if_neg (by omega),if_pos h]
def units (r : Nat) : Nat := if r < 4503599627370496 then r else (4503599627370496 + r % 4503599627370496) * 2 ^ (r / 4503599627370496 - 1)
theorem zZm {a : Nat} (h1 : nanB a = false) (h2 : infB a = false) : ∃ (m k : Nat),double.read a = .number (a / 9223372036854775808 % 2 == 1) m (-1074 + (k : Int)) ∧ m * 2 ^ k = units (rung a) := by
 have h1 := of_decide_eq_false h1;have h2 := of_decide_eq_false h2;rw [zJQ];unfold units;by_cases h : rung a < 4503599627370496
 ·rw [if_pos h,if_pos h];exact ⟨_,0,rfl,by simp⟩
 ·rw [if_neg h,if_neg h,if_pos (by omega)];exact ⟨_,_,rfl,rfl⟩
theorem zXU {r s : Nat} (h : r < s) : units r < units s := by
 unfold units;by_cases hs : s < 4503599627370496
 ·rw [if_pos hs,if_pos (by omega)];exact h
 ·rw [if_neg hs];by_cases hr : r < 4503599627370496
  ·rw [if_pos hr];have : 1 ≤ 2 ^ (s / 4503599627370496 - 1) := Nat.one_le_two_pow;have h2 : (4503599627370496 + s % 4503599627370496) * 1 ≤ (4503599627370496 + s % 4503599627370496) * 2 ^ (s / 4503599627370496 - 1) := Nat.mul_le_mul_left _ this;omega
  ·rw [if_neg hr];by_cases he : r / 4503599627370496 = s / 4503599627370496
   ·rw [he];exact Nat.mul_lt_mul_of_pos_right (by omega) (Nat.two_pow_pos _)
   ·(have hlt : r / 4503599627370496 - 1 + 1 ≤ s / 4503599627370496 - 1 := by omega);have h1 : (4503599627370496 + r % 4503599627370496) * 2 ^ (r / 4503599627370496 - 1) < 9007199254740992 * 2 ^ (r / 4503599627370496 - 1) := Nat.mul_lt_mul_of_pos_right (by omega) (Nat.two_pow_pos _);(have h2 : 9007199254740992 * 2 ^ (r / 4503599627370496 - 1) = 4503599627370496 * 2 ^ (r / 4503599627370496 - 1 + 1) := by rw [Nat.pow_succ];omega);have h3 : 4503599627370496 * 2 ^ (r / 4503599627370496 - 1 + 1) ≤ 4503599627370496 * 2 ^ (s / 4503599627370496 - 1) := Nat.mul_le_mul_left _ (Nat.pow_le_pow_right (by omega) hlt);have h4 : 4503599627370496 * 2 ^ (s / 4503599627370496 - 1) ≤ (4503599627370496 + s % 4503599627370496) * 2 ^ (s / 4503599627370496 - 1) := Nat.mul_le_mul_right _ (by omega);omega
theorem zWX {r s : Nat} (h : units r = units s) : r = s := by
 rcases Nat.lt_trichotomy r s with h1 | h1 | h1
 ·have := zXU h1;omega
 ·exact h1
 ·have := zXU h1;omega
theorem zKV {r : Nat} (h : units r = 0) : r = 0 := zWX (h.trans (by rfl))
theorem zZO (s : Bool) (m k j : Nat) : signed s m k * (2 : Int) ^ j = signed s (m * 2 ^ k) j := by
 unfold signed;simp only [Nat.shiftLeft_eq]
 cases s
 ·simp only [Bool.false_eq_true,if_false]
  push_cast
  rfl
 ·simp only [if_true]
  push_cast
  rw [Int.neg_mul]
theorem zGs (x y c : Int) (hc : 0 < c) : compare (x * c) (y * c) = compare x y := by
 have h1 : x * c < y * c ↔ x < y := Int.mul_lt_mul_right hc;have h2 : x * c = y * c ↔ x = y := ⟨fun h => Int.eq_of_mul_eq_mul_right (by omega) h,fun h => by rw [h]⟩;simp only [compare,compareOfLessAndEq,h1,h2]
def negB (a : Nat) : Bool := a / 9223372036854775808 % 2 == 1
def sv (a : Nat) : Int := if negB a = true then -(units (rung a) : Int) else (units (rung a) : Int)
theorem zYB (s : Bool) (m : Nat) : signed s m 0 = if s = true then -(m : Int) else (m : Int) := by
 unfold signed;simp only [Nat.shiftLeft_zero]
theorem zVT {a b : Nat} (ha : nanB a = false) (ha2 : infB a = false) (hb : nanB b = false) (hb2 : infB b = false) : double.order a b = some (compare (sv a) (sv b)) := by
 obtain ⟨m,k,hr,hm⟩ := zZm ha ha2;obtain ⟨n,l,hs,hn⟩ := zZm hb hb2;unfold Format.order;rw [hr,hs]
 show some (compare (signed (negB a) m ((-1074 + (k : Int)) - min (-1074 + (k : Int)) (-1074 + (l : Int))).toNat) (signed (negB b) n ((-1074 + (l : Int)) - min (-1074 + (k : Int)) (-1074 + (l : Int))).toNat)) = _
 obtain ⟨c,hc⟩ : ∃ c,c = min k l := ⟨_,rfl⟩;(have e1 : ((-1074 + (k : Int)) - min (-1074 + (k : Int)) (-1074 + (l : Int))).toNat = k - c := by omega);(have e2 : ((-1074 + (l : Int)) - min (-1074 + (k : Int)) (-1074 + (l : Int))).toNat = l - c := by omega);rw [e1,e2]
 have full : ∀ (s : Bool) (m k : Nat),c ≤ k → signed s m (k - c) * (2 : Int) ^ c = signed s (m * 2 ^ k) 0 := fun s m k h => by
  have h1 := zZO s m (k - c) c;have h2 := zZO s m (k - c + c) 0
  have h3 : signed s (m * 2 ^ (k - c)) c = signed s (m * 2 ^ k) 0 := by
   unfold signed;simp only [Nat.shiftLeft_eq,Nat.pow_zero,Nat.mul_one,Nat.mul_assoc,← Nat.pow_add,Nat.sub_add_cancel h]
  rw [h1,h3]
 have hpos : (0 : Int) < 2 ^ c := Int.pow_pos (by omega);rw [← zGs _ _ _ hpos,full _ m k (by omega),full _ n l (by omega),hm,hn,zYB,zYB]
 rfl
theorem zKw {a b : Nat} (h : nanB a = true ∨ nanB b = true) : double.order a b = none := by
 unfold Format.order;rcases h with h | h
 ·rw [zBr h];rfl
 ·rw [zBr h]
  cases double.read a <;> rfl
def eqB (a b : Nat) : Bool := !nanB a && !nanB b && (decide (a = b) || (decide (rung a = 0) && decide (rung b = 0)))
theorem zVn {a b : Nat} (ha : a < 18446744073709551616) (hb : b < 18446744073709551616) (hr : rung a = rung b) (hn : negB a = negB b) : a = b := by
 unfold rung at hr;unfold negB at hn
 have h1 : (a / 9223372036854775808 % 2 = 1) ↔ (b / 9223372036854775808 % 2 = 1) := by
  constructor
  ·intro h;have := beq_iff_eq.2 h;rw [hn] at this;exact beq_iff_eq.1 this
  ·intro h;have := beq_iff_eq.2 h;rw [← hn] at this;exact beq_iff_eq.1 this
 omega
theorem zBv {a b : Nat} (ha : a < 18446744073709551616) (hb : b < 18446744073709551616) : (double.order a b == some .eq) = eqB a b := by
 unfold eqB
 cases h1 : nanB a with
 | true => rw [zKw (.inl h1)];rfl
 | false =>
  cases h2 : nanB b with
  | true => rw [zKw (.inr h2)];rfl
  | false =>
   simp only [Bool.not_false,Bool.true_and]
   cases h3 : infB a with
   | true =>
    have e3 := of_decide_eq_true h3
    cases h4 : infB b with
    | true =>
     have e4 := of_decide_eq_true h4;unfold Format.order;rw [zZl h3,zZl h4]
     show ((some (compare (negB b).toNat (negB a).toNat) : Option Ordering) == some .eq) = _
     have hz : decide (rung a = 0) = false := decide_eq_false (by omega);rw [hz,Bool.false_and,Bool.or_false];by_cases he : a = b
     ·subst he;rw [decide_eq_true rfl]
      cases negB a <;> rfl
     ·rw [decide_eq_false he];have : negB a ≠ negB b := fun h => he (zVn ha hb (by omega) h)
      revert this
      cases negB a <;> cases negB b <;> simp <;> decide
    | false =>
     obtain ⟨n,l,hs,hn⟩ := zZm h2 h4;have e4 := of_decide_eq_false h4;unfold Format.order;rw [zZl h3,hs];have hz : decide (rung a = 0) = false := decide_eq_false (by omega);have he : decide (a = b) = false := decide_eq_false (fun h => by subst h;rw [h3] at h4;cases h4);rw [hz,he];show ((some (if (negB a) = true then Ordering.lt else Ordering.gt) : Option Ordering) == some .eq) = false
     cases negB a <;> rfl
   | false =>
    have e3 := of_decide_eq_false h3
    cases h4 : infB b with
    | true =>
     have e4 := of_decide_eq_true h4;obtain ⟨n,l,hs,hn⟩ := zZm h1 h3;unfold Format.order;rw [zZl h4,hs];have hz : decide (rung b = 0) = false := decide_eq_false (by omega);have he : decide (a = b) = false := decide_eq_false (fun h => by subst h;rw [h3] at h4;cases h4);rw [hz,he,Bool.and_false];show ((some (if (negB b) = true then Ordering.gt else Ordering.lt) : Option Ordering) == some .eq) = false
     cases negB b <;> rfl
    | false =>
     rw [zVT h1 h3 h2 h4]
     have key : sv a = sv b ↔ a = b ∨ (rung a = 0 ∧ rung b = 0) := by
      unfold sv;constructor
      ·intro h;by_cases hz : rung a = 0
       ·have hu : units (rung a) = 0 := by rw [hz];rfl
        have hub : units (rung b) = 0 := by
         split at h <;> split at h <;> omega
        exact .inr ⟨hz,zKV hub⟩
       ·(have hua : units (rung a) ≠ 0 := fun h => hz (zKV h));left
        have hn : negB a = negB b := by
         cases ea : negB a <;> cases eb : negB b <;> simp only [ea,eb,Bool.false_eq_true,if_false,if_true] at h <;> first | rfl | omega
        rw [hn] at h;(have hu : units (rung a) = units (rung b) := by split at h <;> omega);exact zVn ha hb (zWX hu) hn
      ·rintro (h | ⟨h,h'⟩)
       ·rw [h]
       ·rw [h,h'];have : units 0 = 0 := rfl;rw [this];split <;> split <;> rfl
     have hc : ((some (compare (sv a) (sv b)) : Option Ordering) == some .eq) = decide (sv a = sv b) := by
      simp only [compare,compareOfLessAndEq];by_cases hlt : sv a < sv b
      ·rw [if_pos hlt,decide_eq_false (by omega)];rfl
      ·rw [if_neg hlt];by_cases he : sv a = sv b
       ·rw [if_pos he,decide_eq_true he];rfl
       ·rw [if_neg he,decide_eq_false he];rfl
     rw [hc];by_cases h : sv a = sv b
     ·rw [decide_eq_true h];rcases key.1 h with h5 | ⟨h5,h6⟩
      ·rw [decide_eq_true h5];rfl
      ·rw [decide_eq_true h5,decide_eq_true h6];simp
     ·rw [decide_eq_false h];(have h7 : ¬ (a = b ∨ (rung a = 0 ∧ rung b = 0)) := fun g => h (key.2 g));rw [decide_eq_false (fun g => h7 (.inl g))];by_cases h5 : rung a = 0
      ·rw [decide_eq_false (fun g => h7 (.inr ⟨h5,g⟩))];simp
      ·rw [decide_eq_false h5];rfl
theorem zZD {a : Nat} (ha : a < 18446744073709551616) : (double.order a a != some .eq) = nanB a := by
 have := zBv ha ha;rw [bne,this];unfold eqB;rw [decide_eq_true rfl]
 cases nanB a <;> rfl
theorem zJt {a : Nat} (ha : a < 18446744073709551616) : (double.order a 0 == some .eq) = decide (rung a = 0) := by
 rw [zBv ha (by omega)];unfold eqB;(have h0 : nanB 0 = false := by decide);(have h1 : decide (rung 0 = 0) = true := by decide);rw [h0,h1,Bool.and_true];by_cases h : rung a = 0
 ·(have : nanB a = false := by unfold nanB;exact decide_eq_false (by omega));rw [this,decide_eq_true h];simp
 ·have : decide (a = 0) = false := decide_eq_false (fun e => h (by rw [e];rfl));rw [this,decide_eq_false h];simp
theorem sub_self {a : Nat} (h1 : nanB a = false) (h2 : infB a = false) : double.sub a a = some 0 := by
 obtain ⟨m,k,hr,hm⟩ := zZm h1 h2;unfold Format.sub;rw [hr];show some (double.write _) = some 0;have hb : ((-1074 + (k : Int)) - min (-1074 + (k : Int)) (-1074 + (k : Int))).toNat = 0 := by omega
 congr 1
 show double.write (.number (if signed (negB a) m ((-1074 + (k : Int)) - min (-1074 + (k : Int)) (-1074 + (k : Int))).toNat + signed (!negB a) m ((-1074 + (k : Int)) - min (-1074 + (k : Int)) (-1074 + (k : Int))).toNat = 0 then (negB a && !negB a) else decide (signed (negB a) m ((-1074 + (k : Int)) - min (-1074 + (k : Int)) (-1074 + (k : Int))).toNat + signed (!negB a) m ((-1074 + (k : Int)) - min (-1074 + (k : Int)) (-1074 + (k : Int))).toNat < 0)) (signed (negB a) m ((-1074 + (k : Int)) - min (-1074 + (k : Int)) (-1074 + (k : Int))).toNat + signed (!negB a) m ((-1074 + (k : Int)) - min (-1074 + (k : Int)) (-1074 + (k : Int))).toNat).natAbs (min (-1074 + (k : Int)) (-1074 + (k : Int)))) = 0;rw [hb]
 have hz : signed (negB a) m 0 + signed (!negB a) m 0 = 0 := by
  rw [zYB,zYB]
  cases negB a <;> simp <;> omega
 rw [hz,if_pos rfl];(have : (negB a && !negB a) = false := by cases negB a <;> rfl);rw [this];unfold Format.write Format.nearest;simp [Format.word]
theorem zHV {a : Nat} (h2 : infB a = true) : double.sub a a = none := by
 unfold Format.sub;rw [zZl h2];show Option.map double.write (if negB a = (!negB a) then _ else none) = none;rw [if_neg (by cases negB a <;> simp)]
 rfl
end Go.Proofs.YtongfmeediokmaaGreatDoor.Flo
end
section
namespace Go.Proofs.YtongfmeediokmaaGreatDoor.Pr
open Go.RowKit Go.Proofs.YtongfmeediokmaaGreatDoorW.PrintWords Go.Proofs.YtongfmeediokmaaGreatDoor.Flo
def kindV (a : Nat) : Int := if nanB a = true then 4 else if rung a = 0 then 0 else if infB a = true then 3 else if rung a < 4503599627370496 then 1 else 2
def flo_canon.f (a : Int) : Option Int := if 0 ≤ a ∧ a < 18446744073709551616 then some (if nanB a.toNat = true then 9221120237041090560 else a) else none
def flo_kind.f (a : Int) : Option Int := if 0 ≤ a ∧ a < 18446744073709551616 then some (kindV a.toNat) else none
theorem zBF (n : Int) (w : World) : (callFunc 50 #[.int .u64 n]).run Tryz.prog w = .ok (.value (.float .f64 n.toNat)) w := by
 rw [run_callFunc_extern Tryz.func50 (by kernel_rfl) (by kernel_rfl) (by kernel_rfl) (e := Extern.MathFloatBits.float64frombits) (by kernel_rfl)]
 rfl
theorem flo_canon.calls (a r : Int) (w : World) (h : flo_canon.f a = some r) : Calls Tryz.prog 36 #[.int .u64 a] w fun e w' => e = .returned (.int .u64 r) ∧ Drawn0 w w' := by
 unfold flo_canon.f at h;by_cases hb : 0 ≤ a ∧ a < 18446744073709551616
 ·rw [if_pos hb] at h;obtain rfl := Option.some.inj h;have ho : (FloatKind.f64.format.order a.toNat a.toNat != some Ordering.eq) = nanB a.toNat := zZD (a := a.toNat) (by omega);have hx := zBF;clear h hb
  cases hn : nanB a.toNat with
  | true =>
   rw [if_pos rfl];rw [hn] at ho;clear hn;go_enter Tryz.func36,Tryz.ntmps36;go_wp2
   go_ret
   exact ⟨rfl,Drawn0.refl _⟩
  | false =>
   rw [if_neg (by decide)];rw [hn] at ho;clear hn;go_enter Tryz.func36,Tryz.ntmps36;go_wp2
   go_ret
   exact ⟨rfl,Drawn0.refl _⟩
 ·rw [if_neg hb] at h
  cases h
theorem zJN {P : Program} (t : TypeId) {x : Nat} (h : infB x = true) (w : World) : ∃ b,(FloatKind.f64.format.order b 0 != some Ordering.eq) = true ∧ (binOp .sub t (.float .f64 x) (.float .f64 x)).run P w = .ok (.float .f64 b) w.drew := by
 have hs : FloatKind.f64.format.sub x x = none := zHV h;refine ⟨Question.cut (.nanBits .f64 x x) (w.tape w.drawn (.nanBits .f64 x x)),?_,?_⟩
 ·generalize w.tape w.drawn (.nanBits .f64 x x) = t
  have hn : nanB (Question.cut (.nanBits .f64 x x) t) = true := by
   show decide (9218868437227405312 < rung ((t % 2) * 2 ^ 63 + 0x7ff0000000000000 + 1 + (t / 2) % (2 ^ 52 - 1))) = true
   refine decide_eq_true ?_
   unfold rung;have hu : t / 2 % (2 ^ 52 - 1) < 4503599627370495 := Nat.mod_lt _ (by decide);generalize t / 2 % (2 ^ 52 - 1) = u at hu;rcases (show t % 2 = 0 ∨ t % 2 = 1 by omega) with e | e
   ·rw [e];omega
   ·rw [e];omega
  have ho : Ieee.double.order (Question.cut (.nanBits .f64 x x) t) 0 = none := zKw (.inl hn);show (Ieee.double.order (Question.cut (.nanBits .f64 x x) t) 0 != some Ordering.eq) = true;rw [ho]
  rfl
 ·simp [binOp,Op.floatArith,hs,choose,Sem.run,Question.forced];try rfl
theorem zJO {P : Program} (t : TypeId) {x : Nat} (h : nanB x = false) (h2 : infB x = false) (w : World) : (binOp .sub t (.float .f64 x) (.float .f64 x)).run P w = .ok (.float .f64 0) w :=
 run_float_arith w .sub t .f64 x x 0 (sub_self h h2)
theorem expB (a : Int) (h0 : 0 ≤ a) (h1 : a < 18446744073709551616) : (Go.bits .and .u64 (a / 4503599627370496) 2047 == 0) = decide (rung a.toNat < 4503599627370496) := by
 obtain ⟨n,rfl⟩ := Int.eq_ofNat_of_zero_le h0
 have hb : Go.bits .and .u64 ((n : Int) / 4503599627370496) 2047 = ((n / 4503599627370496 % 2048 : Nat) : Int) := by
  (have e1 : ((n : Int) / 4503599627370496) = ((n / 4503599627370496 : Nat) : Int) := by omega);rw [e1];(have hlt : n / 4503599627370496 < 2 ^ 64 := by omega);unfold Go.bits;rw [show IntKind.u64.bits = 64 from rfl];simp only [BitVec.toNat_and];rw [show (BitVec.ofInt 64 2047).toNat = 2 ^ 11 - 1 from rfl]
  have e2 : (BitVec.ofInt 64 ((n / 4503599627370496 : Nat) : Int)).toNat = n / 4503599627370496 := by
   rw [BitVec.ofInt_natCast,BitVec.toNat_ofNat,Nat.mod_eq_of_lt hlt]
  rw [e2,Nat.and_two_pow_sub_one_eq_mod];unfold IntKind.wrap;simp [IntKind.bits,IntKind.signed];omega
 rw [hb];unfold rung;rw [Int.toNat_natCast];by_cases h : n % 9223372036854775808 < 4503599627370496
 ·rw [decide_eq_true h];exact beq_iff_eq.2 (by omega)
 ·rw [decide_eq_false h];exact beq_eq_false_iff_ne.2 (by omega)
set_option maxHeartbeats 800000 in
theorem flo_kind.calls (a r : Int) (w : World) (h : flo_kind.f a = some r) : Calls Tryz.prog 45 #[.int .u64 a] w fun e w' => e = .returned (.int .i64 r) ∧ Drawn0 w w' := by
 unfold flo_kind.f at h;by_cases hb : 0 ≤ a ∧ a < 18446744073709551616
 ·rw [if_pos hb] at h;obtain rfl := Option.some.inj h;have ho : (FloatKind.f64.format.order a.toNat a.toNat != some Ordering.eq) = nanB a.toNat := zZD (a := a.toNat) (by omega);have hz : (FloatKind.f64.format.order a.toNat 0 == some Ordering.eq) = decide (rung a.toNat = 0) := zJt (a := a.toNat) (by omega);have hx := zBF;have he := expB a hb.1 hb.2;have hzz : (FloatKind.f64.format.order 0 0 != some Ordering.eq) = false := zZD (a := 0) (by omega);clear h hb;unfold kindV
  cases hn : nanB a.toNat with
  | true =>
   rw [if_pos rfl];rw [hn] at ho;clear hn hz he hzz;go_enter Tryz.func45,Tryz.ntmps45;go_wp2
   go_ret
   exact ⟨rfl,Drawn0.refl _⟩
  | false =>
   rw [if_neg (by decide)];rw [hn] at ho;by_cases h0 : rung a.toNat = 0
   ·rw [if_pos h0];rw [decide_eq_true h0] at hz;clear hn h0 he hzz;go_enter Tryz.func45,Tryz.ntmps45;go_wp2
    go_ret
    exact ⟨rfl,Drawn0.refl _⟩
   ·rw [if_neg h0];rw [decide_eq_false h0] at hz
    cases hi : infB a.toNat with
    | true =>
     rw [if_pos rfl];obtain ⟨b,hb1,hb2⟩ := zJN (P := Tryz.prog) 65 hi w;clear hn h0 he hi hzz;go_enter Tryz.func45,Tryz.ntmps45;go_wp2
     go_ret
     exact ⟨rfl,⟨1,rfl⟩⟩
    | false =>
     rw [if_neg (by decide)];have hs := zJO (P := Tryz.prog) 65 hn hi;clear hn h0 hi;by_cases h1 : rung a.toNat < 4503599627370496
     ·rw [if_pos h1];rw [decide_eq_true h1] at he;clear h1;go_enter Tryz.func45,Tryz.ntmps45;go_wp2
      go_ret
      exact ⟨rfl,Drawn0.refl _⟩
     ·rw [if_neg h1];rw [decide_eq_false h1] at he;clear h1;go_enter Tryz.func45,Tryz.ntmps45;go_wp2
      go_ret
      exact ⟨rfl,Drawn0.refl _⟩
 ·rw [if_neg hb] at h
  cases h
end Go.Proofs.YtongfmeediokmaaGreatDoor.Pr
end
section
namespace Go.Proofs.YtongfmeediokmaaGreatDoor.Pr
open Go.RowKit Go.Proofs.YtongfmeediokmaaGreatDoorW.PrintWords Go.Proofs.YtongfmeediokmaaGreatDoorW.PrintLast Go.Proofs.YtongfmeediokmaaGreatDoorW.PrintMore
set_option maxHeartbeats 8000000
set_option maxRecDepth 100000
theorem infoB : (Tryz.prog.info? 72).map (fun i => (i.zero,i.size,i.bytes)) = some (some (.int .u32 0),1,4) := by kernel_rfl
def xrdB (xs : List (List Int)) (i : Int) : (List Int) := xs.getD i.toNat ([] : List Int)
theorem xatB {w : World} {A : Option Addr} {n : Nat} {xs : List (List Int)} (h : Kd.C (Kd.slice 72 (Kd.int .u32)) w A n xs) (i : Int) (h0 : 0 ≤ i) (h1 : i < n) : ∃ ad A0 c0,A = some ad ∧ w.cell? (ad.add i.toNat) = some (.slice A0 (xrdB xs i).length c0) ∧ (xrdB xs i).length ≤ c0 ∧ (Kd.int .u32).C w A0 (xrdB xs i).length (xrdB xs i) := by
 obtain ⟨ad,c,e,_,hK,hc0⟩ := Kd.C_get h ([] : List Int) i h0 h1;have hc : ∀ j u,c[j]? = some u → w.cell? (ad.add (i.toNat * 1 + j)) = some u := hc0;obtain ⟨A0,c0,rfl,l0,g0⟩ := hK;exact ⟨ad,A0,c0,e,by have hq := hc 0 _ rfl;rwa [Nat.mul_one,Nat.add_zero] at hq,l0,g0⟩
theorem zKh {α : Type} (l : List α) (k : Nat) (d : α) (h : k < l.length) : l.take (k + 1) = l.take k ++ [l.getD k d] := by
 rw [List.take_succ_eq_append_getElem h];simp [List.getD_eq_getElem?_getD,List.getElem?_eq_getElem h]
theorem zHd (n : Nat) (w : World) (hn : n ≤ 35184372088832) :
  Calls Tryz.prog 109 #[.slice none 0 0,.int .i64 n] w fun e w' => ∃ v0_ : Value,e = .returned (v0_) ∧ Kd.R (Kd.int .u32) 72 w' w.heap.size (fun _ => True) v0_ [] ∧ Below w.heap.size w w' := by
 have hcap : ∀ (W : World) (W2 : World) (v : Value),Kd.R (Kd.int .u32) 72 W w.heap.size (fun _ => True) v (List.replicate n 0) → ∃ v2,(Instr.slice 70 v none (some (.int .i64 0)) none).run Tryz.prog W2 = .ok v2 W2 ∧ Kd.R (Kd.int .u32) 72 W w.heap.size (fun _ => True) v2 [] := by
  intro W W2 v hv;obtain ⟨A,c,rfl,hl,hr⟩ := Kd.zWS hv;refine ⟨.slice A 0 c,?_,by simpa using Kd.zHN hv (m := 0) (Nat.zero_le _)⟩;(have hel : Tryz.prog.elem 70 = 72 := by simp [Program.elem,Tryz.underlying70]);(have hu : Tryz.prog.underlying 70 = some (.slice (Tryz.prog.elem 70)) := by rw [hel];exact Tryz.underlying70);obtain ⟨i0,hi,hz0,hz1,hz2⟩ := info_parts infoB;rw [run_slice_h (P := Tryz.prog) W2 70 A (List.replicate n (0:Int)).length c hu .i64 0 (by omega) (by omega),hel];simp [sizeOf,typeInfo,hi,hz1,sliced,Result.andThen]
  intro _
  cases A <;> simp [Addr.add]
 by_cases h0 : 0 < n
 ·have HB := Aside0.mk (Below.refl w.heap.size w);have Hcap := Aside0.mk hcap;clear hcap;go_enter Tryz.func109,Tryz.ntmps109;go_wp2_with (first | ((with_reducible refine zQu (b := .append) (xs := #[.tmp 20,.tmp 21]) rfl ?_);at_builtin;refine Kd.zKT (Kd.int .u32) (w0 := w) w.heap.size rfl (.tmp 20) (.tmp 21) 70 3 72 (.int .u32 0) 4 rfl Tryz.underlying70 Tryz.underlying3 infoB rfl (by decide) (by omega) (.slice none 0 0) ([] : List Int) (0 : Int) (n : Int) (fun _ => True) rfl rfl rfl (fun _ _ => trivial) (Kd.R_nil _ _ _ _ _) (by omega) (Below.refl _ _) (Nat.le_refl _) (by simp;omega) ?_;intro v105 w5 ho hb hg hat;rw [Int.toNat_natCast,List.nil_append] at ho;obtain ⟨v2,hr2,ho2⟩ := Hcap.out w5 w5 v105 ho;have HO5 := Aside0.mk ho2;have HB5 := Aside0.mk hb;clear ho hb hg hat ho2 Hcap))
  go_ret
  exact ⟨_,rfl,HO5.out,HB5.out⟩
 ·(obtain rfl : n = 0 := by omega);go_enter Tryz.func109,Tryz.ntmps109;go_wp2
  go_ret
  exact ⟨_,rfl,Kd.R_nil _ _ _ _ _,Below.refl _ _⟩
def zXB (l : List (List Int)) : Nat := (l.map List.length).sum
theorem zYz (l : List (List Int)) (k : Nat) (h : k < l.length) : zXB (l.take (k + 1)) = zXB (l.take k) + (l.getD k []).length := by
 rw [zKh l k [] h];simp [zXB]
theorem zYH (l : List (List Int)) (k : Nat) : zXB (l.take k) ≤ zXB l := by
 (have h : zXB (l.take k ++ l.drop k) = zXB (l.take k) + zXB (l.drop k) := by simp only [zXB,List.map_append,List.sum_append]);rw [List.take_append_drop] at h;omega
theorem zKC (l : List (List Int)) : l.flatten.length = zXB l := by simp [zXB,List.length_flatten]
def slices_Concat.f (l0 : List (List Int)) : Option (List Int) := if l0.flatten.length < 35184372088832 then some l0.flatten else none
theorem slices_Concat.calls (A0 : Option Addr) (c0 : Nat) (l0 : List (List Int)) (r : List Int) (w : World) (hr0 : Kd.C (Kd.slice 72 (Kd.int .u32)) w A0 l0.length l0) (hc0 : l0.length ≤ c0) (h : slices_Concat.f l0 = some r) :
  Calls Tryz.prog 89 #[.slice A0 l0.length c0] w fun e w' => ∃ v0_ : Value,e = .returned (v0_) ∧ Kd.R (Kd.int .u32) 72 w' w.heap.size (fun _ => True) v0_ r ∧ Below w.heap.size w w' := by
 unfold slices_Concat.f at h;by_cases hl : l0.flatten.length < 35184372088832
 ·rw [if_pos hl] at h;obtain rfl := Option.some.inj h;clear h;rw [zKC] at hl;have HR0 := Aside0.mk hr0;have HLL := Aside0.mk hl;have HL0 := Kd.C_max hr0;clear hr0 hl;go_enter Tryz.func89,Tryz.ntmps89;go_wp2_with fail
  go_loop [3,11] (fun s i => ∃ (sv k : Nat),Aside0 (sv = zXB (l0.take k)) ∧ k ≤ l0.length ∧ sv < 35184372088832 ∧ i = .int .i64 k ∧ s = .int .i64 sv) (fun _ i => l0.length - (intOf i).toNat)
  case atStart => exact ⟨0,0,⟨rfl⟩,Nat.zero_le _,by omega,rfl,rfl⟩
  case round =>
   obtain ⟨sv,k,HE,hk,hs,rfl,rfl⟩ := hrel;by_cases hlt : k < l0.length
   ·obtain ⟨ad,A1,c1,rfl,hx,hc1,hr1⟩ := xatB HR0.out (k : Int) (by omega) (by omega);rw [Int.toNat_natCast] at hx
    have ht : sv + (xrdB l0 (k : Int)).length < 35184372088832 := by
     have h1 := zYz l0 k hlt;have h2 := zYH l0 (k + 1);have h3 := HLL.out;have h4 := HE.out;have h5 : (xrdB l0 (k : Int)).length = (l0.getD k []).length := rfl;omega
    obtain ⟨x,Hx⟩ : ∃ x,Aside0 (x = xrdB l0 (k : Int)) := ⟨_,⟨rfl⟩⟩;rw [← Hx.out] at hx hc1 hr1 ht;clear hr1;go_wp2_with fail
    go_round
    case rel =>
     refine ⟨sv + x.length,k + 1,⟨?_⟩,by omega,by omega,by go_num,by go_num⟩;rw [zYz l0 k hlt,← HE.out,Hx.out]
     rfl
    case measure => simp [intOf];omega
   ·(obtain rfl : k = l0.length := by omega);have HT : Aside0 (sv = zXB l0) := ⟨by have := HE.out;rwa [List.take_of_length_le (Nat.le_refl _)] at this⟩;clear HE;go_wp2_with (go_at_call 109;refine (zHd sv _ (by omega)).mono ?_;rintro e w1 ⟨v1,rfl,ho1,hb1⟩;have aA := Aside0.mk ho1;have HB1 := Aside0.mk hb1;clear ho1 hb1)
    go_loopw [6,27] (fun v i wr => ∃ (k : Nat) (xs : List Int),Aside0 (xs = (l0.take k).flatten) ∧ k ≤ l0.length ∧ i = .int .i64 k ∧ Aside0 (Kd.R (Kd.int .u32) 72 wr w.heap.size (fun _ => True) v xs) ∧ Aside0 (Below w.heap.size w wr)) (fun _ i _ => l0.length - (intOf i).toNat)
    case atStart => exact ⟨0,[],⟨rfl⟩,Nat.zero_le _,rfl,aA,HB1⟩
    case round =>
     obtain ⟨k,xs,HE,hk,rfl,HO,HB⟩ := hrel;by_cases hlt : k < l0.length
     ·obtain ⟨ad,A2,c2,rfl,hx,hc2,hr2⟩ := xatB (Kd.zQL HR0.out HB.out) (k : Int) (by omega) (by omega);rw [Int.toNat_natCast] at hx;obtain ⟨x,Hx⟩ : ∃ x,Aside0 (x = xrdB l0 (k : Int)) := ⟨_,⟨rfl⟩⟩;rw [← Hx.out] at hx hc2 hr2;have HR2 := Aside0.mk hr2;clear hr2
      have HS : Aside0 (xs.length + x.length ≤ 35184372088832) := by
       have h1 := zYz l0 k hlt;have h2 := zYH l0 (k + 1);have h3 := HLL.out;(have h5 : x.length = (l0.getD k []).length := by rw [Hx.out];rfl);(have h6 : xs.length = zXB (l0.take k) := by rw [HE.out,zKC]);exact ⟨by omega⟩
      go_wp2_with (first | ((with_reducible refine zQu (b := .append) (xs := #[.tmp 31,.tmp 32]) rfl ?_);at_builtin;refine Kd.zXH (Kd.int .u32) (w0 := w) w.heap.size rfl (.tmp 31) (.tmp 32) 70 72 (.int .u32 0) 4 rfl Tryz.underlying70 infoB rfl (by decide) (by omega) _ xs x _ _ _ (fun _ => True) (fun _ => False) rfl rfl HO.out HR2.out (fun _ _ h => h) (fun _ h => h.elim) (fun _ _ => trivial) HB.out HB.out.size (by have := HS.out;omega) ?_;intro aD w5 ho hb hg hat;have aC := Aside0.mk ho;have HB5 := Aside0.mk hb;clear ho hb hg hat))
      go_roundw
      case rel =>
       refine ⟨k + 1,xs ++ x,⟨?_⟩,by omega,by go_num,aC,HB5⟩;rw [zKh l0 k [] hlt,HE.out,List.flatten_append,Hx.out];simp [xrdB]
      case measure => simp [intOf];omega
     ·have HT2 : Aside0 (xs = l0.flatten) := ⟨by have := HE.out;rwa [List.take_of_length_le (by omega)] at this⟩;clear HE;go_wp2_with fail
      go_ret
      exact ⟨_,rfl,by rw [← HT2.out];exact HO.out,HB.out⟩
 ·rw [if_neg hl] at h
  cases h
open Kd in
theorem own_made {α : Type} (d : Kd α) {W : World} (base e : Nat) {z : Value} (hz : z.cells.size = d.sz) (hs0 : 0 < d.sz) (z0 : α) {ok okp : Nat → Prop} (hzero : d.M W base okp z0 z.cells.toList) (hok : ∀ k,okp k → ok k) (hfresh : ok W.heap.size) (hbase : base ≤ W.heap.size) (n c : Nat) (hnc : n ≤ c) (hc : c ≤ 281474976710656) :
  d.R e (W.alloc (.cells (madeCells z.cells (c * d.sz)) e)) base ok (.slice (some ⟨W.heap.size,0,none⟩) n c) (List.replicate n z0) := by
 have hrep := zKp hz hs0 hzero c
 have hfull : d.R e (W.alloc (.cells (madeCells z.cells (c * d.sz)) e)) base ok (.slice (some ⟨W.heap.size,0,none⟩) c c) (List.replicate c z0) := by
  refine ⟨fun k hk => ?_,(madeCells z.cells (c * d.sz)).toList,?_,?_⟩
  ·(have : W.heap.size = k := by simpa [Value.ownBlock] using hk);subst this;exact hfresh
  ·have h2 := World.ownsRow_lit (base := base) (e := e) (size := d.sz) W (madeCells z.cells (c * d.sz)) c hbase (by simp only [maxLen];omega) (by have := hrep.1;simpa using this)
   simpa using h2
  ·refine hrep.imp_ (fun p c hp => d.M_mono (fun k hk => ⟨hok k hk.1,fun he => ?_⟩) (zBd (d.M_bound hp) (zXe (Below.refl _ _) _)));(have h3 : k = W.heap.size := by simpa [Value.ownBlock] using he);have := hk.2.2.1;omega
 have := zHN hfull (m := n) (by simpa using hnc)
 rwa [List.take_replicate,Nat.min_eq_left hnc] at this
section
variable {P : Program} {ops : Array Oper} {o : Oper} {rest : List Oper} {a : Act} {Q : Exit → Act → World → Prop}
open Kd in
theorem zKN {α : Type} (d : Kd α) {w0 W : World} (base e : Nat) (hgd : o.guard = none) {N : Tmp} (hd : o.dst = some N) (t : TypeId) (x y : Operand) (ho : o.op = .makeSlice t x y) (n c : Int) (hx : a.eval x = .int .i64 n) (hy : a.eval y = .int .i64 c)
  (ht : P.underlying t = some (.slice e)) (z : Value) (bytes : Nat) (hinfo : (P.info? e).map (fun i => (i.zero,i.size,i.bytes)) = some (some z,d.sz,bytes)) (hz : z.cells.size = d.sz) (hs0 : 0 < d.sz) (hb0 : 0 < bytes)
  (z0 : α) {ok okp : Nat → Prop} (hzero : d.M W base okp z0 z.cells.toList) (hok : ∀ k,okp k → ok k) (hfresh : ok W.heap.size) (h0 : 0 ≤ n) (hnc : n ≤ c) (hl : c.toNat * bytes ≤ 281474976710656) (HB : Below base w0 W) (hbase : base ≤ W.heap.size)
  (h : ∀ v1 w1,d.R e w1 base ok v1 (List.replicate n.toNat z0) → Below base w0 w1 → W.grownBy w1 none → (∃ b,v1.ownBlock = some b ∧ W.heap.size ≤ b) → wpList P ops Q rest (a.put o.dst v1) w1) : wpList P ops Q (o :: rest) a W := by
 obtain ⟨m,rfl⟩ := Int.eq_ofNat_of_zero_le h0;obtain ⟨c,rfl⟩ := Int.eq_ofNat_of_zero_le (Int.le_trans h0 hnc);simp only [Int.toNat_natCast] at hl h;obtain ⟨i0,hi,hzz⟩ := Option.map_eq_some_iff.1 hinfo;simp only [Prod.mk.injEq] at hzz;obtain ⟨hz0,hz1,hz2⟩ := hzz;have hm : c ≤ 281474976710656 := Nat.le_trans (Nat.le_mul_of_pos_right _ hb0) hl
 have hr := run_make (P := P) W t e i0 z ht hi hz0 .i64 .i64 (m : Int) (c : Int) (by omega) (by omega)
  (by
   have h3 : ((i0.bytes * c : Nat) : Int) ≤ 281474976710656 := by rw [hz2,Nat.mul_comm];omega
   rwa [Int.natCast_mul] at h3) (by omega)
 simp only [Int.toNat_natCast] at hr;rw [hz1] at hr;refine zKD hgd (show (execOp a.eval o).run P W = .ok (.value (.slice (some ⟨W.heap.size,0,none⟩) m c)) _ by simp [execOp,ho,hx,hy,hr]) (h _ _ (own_made d base e hz hs0 z0 hzero hok hfresh hbase m c (by omega) hm) (HB.alloc hbase _) (World.grownBy_alloc W _ none) ⟨W.heap.size,by simp [Value.ownBlock],Nat.le_refl _⟩)
end
end Go.Proofs.YtongfmeediokmaaGreatDoor.Pr
end
section
namespace Go.Proofs.YtongfmeediokmaaGreatDoor.Pr
open Go.RowKit Go.Proofs.YtongfmeediokmaaGreatDoorW.PrintWords Go.Proofs.YtongfmeediokmaaGreatDoorW.PrintLast Go.Proofs.YtongfmeediokmaaGreatDoorW.PrintMore Go.Shelf
shelf_lay Lays.n129 Nm 129 at Tryz as Tryz.laysLen64
shelf_lay Lays.n128 Nm 128 at Tryz as Tryz.laysLen32
theorem zFP : Tryz.laysLen64_ren.f 129 = 86 := by kernel_rfl
theorem zFQ : Tryz.laysLen32_ren.f 128 = 88 := by kernel_rfl
def bits_Len64.f (a : Int) : Option Int := if 0 ≤ a ∧ a ≤ 18446744073709551615 then some (Lib.bitLen a.toNat : Int) else none
def bits_Len32.f (a : Int) : Option Int := if 0 ≤ a ∧ a ≤ 4294967295 then some (Lib.bitLen a.toNat : Int) else none
theorem bits_Len64.calls (a r : Int) (w : World) (h : bits_Len64.f a = some r) : Calls Tryz.prog 86 #[.int .u64 a] w fun e w' => e = .returned (.int .i64 r) ∧ Drawn0 w w' := by
 unfold bits_Len64.f at h;by_cases hb : 0 ≤ a ∧ a ≤ 18446744073709551615
 ·rw [if_pos hb] at h;obtain rfl := Option.some.inj h;have := Any.bits_Len64 { Tryz.laysLen64 with } a w hb.1 hb.2;rw [zFP] at this;exact this.mono fun e w' ⟨h1,h2⟩ => ⟨h1,by rw [h2];exact Drawn0.refl w⟩
 ·rw [if_neg hb] at h;exact absurd h (by simp)
theorem bits_Len32.calls (a r : Int) (w : World) (h : bits_Len32.f a = some r) : Calls Tryz.prog 88 #[.int .u32 a] w fun e w' => e = .returned (.int .i64 r) ∧ Drawn0 w w' := by
 unfold bits_Len32.f at h;by_cases hb : 0 ≤ a ∧ a ≤ 4294967295
 ·rw [if_pos hb] at h;obtain rfl := Option.some.inj h;have := Any.bits_Len32 { Tryz.laysLen32 with } a w hb.1 hb.2;rw [zFQ] at this;exact this.mono fun e w' ⟨h1,h2⟩ => ⟨h1,by rw [h2];exact Drawn0.refl w⟩
 ·rw [if_neg hb] at h;exact absurd h (by simp)
shelf_lay LaysM.n171 Nm 171 at Tryz as Tryz.laysItoa
theorem fItoa : Tryz.laysItoa_ren.f 171 = 69 := by kernel_rfl
theorem gPow : Tryz.prog.globalNamed "internal/strconv.uint64pow10" = some 2 := by kernel_rfl
def zKO (w : World) : Prop := Lib.TabIs Tryz.prog w "internal/strconv.uint64pow10" .u64 Lib.pow10Tab
def zBw : List ByteArray := [⟨#[110,105,108]⟩,⟨#[98,111,111,108,101,97,110]⟩,⟨#[98,111,111,108,101,97,110]⟩,⟨#[110,117,109,98,101,114]⟩,⟨#[115,116,114,105,110,103]⟩,⟨#[116,97,98,108,101]⟩,⟨#[102,117,110,99,116,105,111,110]⟩,⟨#[116,104,114,101,97,100]⟩,⟨#[102,117,110,99,116,105,111,110]⟩]
def zGA (w : World) : Prop := ∀ i,i < 9 → w.cell? ⟨0,i,none⟩ = some (.string (zBw.getD i ⟨#[]⟩))
def zXL (w : World) : Prop := zKO w ∧ zGA w
theorem zGX {w w' : World} (h : zKO w) (hb : Below w.heap.size w w') : zKO w' := by
 have hlt := World.block_lt_of_cell? w _ (h.cell gPow 0 (by decide));unfold zKO Lib.TabIs World.var? at h ⊢;rw [gPow] at h ⊢;simp only [Option.bind_some] at h ⊢;rw [hb.block _ hlt];exact h
theorem zZq {w w' : World} (h : zXL w) (hb : Below w.heap.size w w') : zXL w' := ⟨zGX h.1 hb,fun i hi => zZn hb (h.2 i hi)⟩
theorem zJw {w : World} (h : zXL w) (n : Nat) : zXL (w.drewN n) := h
theorem zHe {w : World} (h : zXL w) : zXL w.drew := h
theorem below_grow (w : World) (n : Nat) (os : Array Obj) : Below w.heap.size w (Go.Sort.grow (w.drewN n) os) := ⟨rfl,rfl,rfl,by
  show w.heap.size ≤ (w.heap ++ os).size
  rw [Array.size_append];omega,fun k hk => by
  show (w.heap ++ os)[k]? = w.heap[k]?
  exact Array.getElem?_append_left hk⟩
def zHF (n : Int) : ByteArray := ⟨(Lib.itoa n).toArray⟩
def strconv_Itoa.f (a0 : Int) : Option ByteArray := if -9223372036854775808 ≤ a0 ∧ a0 ≤ 9223372036854775807 then some (zHF a0) else none
theorem strconv_Itoa.calls (a0 : Int) (r : ByteArray) (w : World) (hG : zXL w) (h : strconv_Itoa.f a0 = some r) :
  Calls Tryz.prog 69 #[.int .i64 a0] w fun e w' => e = .returned (.string r) ∧ Below w.heap.size w w' := by
 unfold strconv_Itoa.f at h;by_cases hs : -9223372036854775808 ≤ a0 ∧ a0 ≤ 9223372036854775807
 ·rw [if_pos hs] at h;obtain rfl := Option.some.inj h;have := Any.strconv_Itoa { Tryz.laysItoa with } a0 hs.1 hs.2 w hG.1;rw [fItoa] at this;exact this.mono fun e w' ⟨h1,k,os,h2⟩ => ⟨h1,by rw [h2];exact below_grow w k os⟩
 ·rw [if_neg hs] at h;exact absurd h (by simp)
shelf_lay Lays.n105 Nm 105 at Tryz as Tryz.laysRepeat
theorem zBa : Builder.Extra Tryz.prog Tryz.laysRepeat_ren where
 sizeBuilder := by kernel_rfl
 liesBuilder := by kernel_rfl
 t5 := Tryz.laysRepeat.t5
 a5 := Tryz.laysRepeat.a5
 z5 := Tryz.laysRepeat.z5
 v5 := Tryz.laysRepeat.v5
 infoByte := by kernel_rfl
 cellsByte := by kernel_rfl
 sizeByte := by kernel_rfl
 neB5 := by decide
theorem zFu : Tryz.laysRepeat_ren.f 105 = 70 := by kernel_rfl
def zBq (a0 : ByteArray) (n : Nat) : ByteArray := ⟨(Lib.repeatL a0.data.toList n).toArray⟩
def strings_Repeat.f (a0 : ByteArray) (a1 : Int) : Option ByteArray := if 0 ≤ a1 ∧ a1 ≤ 9223372036854775807 ∧ a0.size * a1.toNat ≤ 140737488355328 then some (zBq a0 a1.toNat) else none
theorem strings_Repeat.calls (a0 : ByteArray) (a1 : Int) (r : ByteArray) (w : World) (h : strings_Repeat.f a0 a1 = some r) :
  Calls Tryz.prog 70 #[.string a0,.int .i64 a1] w fun e w' => e = .returned (.string r) ∧ Below w.heap.size w w' := by
 unfold strings_Repeat.f at h;by_cases hs : 0 ≤ a1 ∧ a1 ≤ 9223372036854775807 ∧ a0.size * a1.toNat ≤ 140737488355328
 ·rw [if_pos hs] at h;obtain rfl := Option.some.inj h;obtain ⟨n,rfl⟩ := Int.eq_ofNat_of_zero_le hs.1;have := Any.strings_Repeat Tryz.laysRepeat zBa a0 n w (by omega) hs.2.2;rw [zFu] at this;exact this
 ·rw [if_neg hs] at h;exact absurd h (by simp)
shelf_lay Lays.n162 Nm 162 at Tryz as Tryz.laysTrim
theorem fTrim : Tryz.laysTrim_ren.f 162 = 103 := by kernel_rfl
def zBk (a0 : ByteArray) (c : UInt8) : ByteArray := ⟨(Lib.trimRightB a0.data.toList c).toArray⟩
def strings_TrimRight.f (a0 a1 : ByteArray) : Option ByteArray := if a0.size ≤ 9223372036854775807 then (if a1 = ⟨#[48]⟩ then some (zBk a0 48) else none) else none
theorem strings_TrimRight.calls (a0 a1 : ByteArray) (r : ByteArray) (w : World) (h : strings_TrimRight.f a0 a1 = some r) :
  Calls Tryz.prog 103 #[.string a0,.string a1] w fun e w' => e = .returned (.string r) ∧ Drawn0 w w' := by
 unfold strings_TrimRight.f at h;by_cases hs : a0.size ≤ 9223372036854775807
 ·rw [if_pos hs] at h;by_cases h1 : a1 = ⟨#[48]⟩
  ·rw [if_pos h1] at h;obtain rfl := Option.some.inj h;subst h1;have := Any.strings_TrimRight_one Tryz.laysTrim a0 48 (by decide) w hs;rw [fTrim] at this;exact this.mono fun e w' ⟨h1,h2⟩ => ⟨h1,by rw [h2];exact Drawn0.refl w⟩
  ·rw [if_neg h1] at h;exact absurd h (by simp)
 ·rw [if_neg hs] at h;exact absurd h (by simp)
end Go.Proofs.YtongfmeediokmaaGreatDoor.Pr
end
section
namespace Go.Proofs.YtongfmeediokmaaGreatDoor.Pr
open Go.RowKit Go.Proofs.YtongfmeediokmaaGreatDoorW.PrintWords Go.Proofs.YtongfmeediokmaaGreatDoorW.PrintLast Go.Proofs.YtongfmeediokmaaGreatDoorW.PrintMore
theorem am {p : Prop} (h : p) : Aside0 p := ⟨h⟩
abbrev zS_ : Array Value := #[.int .u64 0,.int .u64 0,.slice none 0 0,.int .i64 0,.int .u64 0,.string (⟨#[]⟩ : ByteArray),.slice none 0 0,.int .i64 0,.int .u64 0,.string (⟨#[]⟩ : ByteArray),.slice none 0 0]
theorem pB {p : Prop} (h : p := by repeat (first | (with_reducible first | exact HB.out | apply zXe | apply zQI | apply zQC | refine zQP ?_ (Aside0.out (by with_reducible assumption))) | exact HB.out)) : p := h
theorem pK {p q : Prop} (h : p) (f : p → q := by intro h_;(with_reducible repeat (first | refine zQc ?_ _ | refine zQe ?_ | refine zQd ?_ _));exact h_) : q := f h
theorem pkb {W W1 W2 : World} {g : Nat} {o : Obj} (h : W.heap[g]? = some o) (hb : Below W1.heap.size W1 W2) (f : W.heap[g]? = some o → W1.heap[g]? = some o := by intro h_;(with_reducible repeat (first | refine zQc ?_ _ | refine zQe ?_ | refine zQd ?_ _));exact h_) : W2.heap[g]? = some o := zZu (f h) hb
theorem pkl {W W1 : World} {g : Nat} {o : Obj} (h : W.heap[g]? = some o) (f : W.heap[g]? = some o → W1.heap[g]? = some o := by intro h_;(with_reducible repeat (first | refine zQc ?_ _ | refine zQe ?_ | refine zQd ?_ _));exact h_) : g < W1.heap.size := zZU (f h)
theorem pR {p q : Prop} (h : p) (f : p → q := by intro h_;(with_reducible repeat (first | apply Kd.R_alloc | apply Kd.zQp | apply Kd.zQs));exact h_) : q := f h
theorem pN {p q : Prop} (h : p) (f : p → q := by intro h_;(with_reducible repeat (first | apply Kd.N_alloc | apply Kd.N_drewN | apply Kd.N_drew));exact h_) : q := f h
theorem pV {p q : Prop} (h : p) (f : p → q := by intro h_;(with_reducible repeat (first | apply Kd.V_alloc | apply Kd.zQk | apply Kd.zQm));exact h_) : q := f h
theorem puA {P : Program} {ops : Array Oper} {Q : Exit → Act → World → Prop} {md : Region.Mode} {S : World → Prop} {ds : List Nat} {T : Bool × List (List Nat × List Nat)} {oi : Oper} {fuel : Nat} {l : Array Bool} {a : Act} {w : World} (i : Nat) (N : Option Tmp) (v : Value) (l' : Array Bool) (hi : ops[i]? = some oi) (hN : oi.dst = N) (hT : rtab md ops = T) (hy : Yields P ops oi v a) (a' : Act) (ha : a.put N v = a') (h : zQA P md ops Q S ds fuel l' a' w) (hk : anyT T l.toList l'.toList i = true := by kernel_rfl) (hQ : ∀ (c : List PanicEntry) (a : Act) (w : World),Q (Exit.panic c) (a.put oi.dst v) w → Q (Exit.panic c) a w := by exact fun _ _ _ h => h) : zQA P md ops Q S ds (fuel + 1) l a w := pure_ (i := i) (N := N) (v := v) (a' := a') l' hi hN (zFX hT hk) hQ hy ha h
theorem pI {α : Type} {a b : α} {p q : Prop} (e : a = b) (h : p) (f : a = b → p → q := by intro e_ h_;first | (rw [e_];with_reducible exact h_) | (have H2_ := (Option.bind_some _ _).symm.trans h_;rw [e_];with_reducible exact H2_) | (have H2_ := (Option.bind_some _ _).symm.trans h_;with_reducible exact H2_) | with_reducible exact h_ | (rw [e_];exact h_) | exact h_) : q := f e h
theorem iN {α : Type} {c : Prop} [Decidable c] {a : Option α} {r : α} (h : (if c then a else none) = some r) : c ∧ a = some r := by
 by_cases g : c
 · rw [if_pos g] at h;exact ⟨g,h⟩
 · rw [if_neg g] at h;cases h
theorem iT {α : Type} {c : Prop} [Decidable c] {a b : α} {r : α} (h : (if c then a else b) = r) : (c ∧ a = r) ∨ (¬ c ∧ b = r) := by
 by_cases g : c
 · rw [if_pos g] at h;exact .inl ⟨g,h⟩
 · rw [if_neg g] at h;exact .inr ⟨g,h⟩
theorem pC {p q : Prop} (h : p) (f : p → q := by intro h_;(repeat (first | exact h_ | (with_reducible refine Kd.C_alloc ?_ _) | (with_reducible refine Kd.C_drewN ?_ _) | (with_reducible refine Kd.C_drew ?_)))) : q := f h
theorem pS {p : Prop} (h : p := by first | rfl | (simp;done) | (simp [*];done)) : p := h
theorem pQ0 {p : Prop} (h : p := by repeat (first | exact Drawn0.refl _ | apply Drawn0.step)) : p := h
theorem oB {α β : Type} {x : Option α} {f : α → Option β} {r : β} (h : x.bind f = some r) : ∃ t,Aside0 (x = some t) ∧ f t = some r := by
 obtain ⟨t,a,b⟩ := Option.bind_eq_some_iff.mp h;exact ⟨t,⟨a⟩,b⟩
theorem pRn {p q : Prop} (h : p) (f : p → q := by intro h_;(with_reducible repeat (first | apply Kd.R_alloc | apply Kd.zQp | apply Kd.zQs));exact Kd.zQx h_ (fun _ hk => by simp only [ne_eq] at hk ⊢;simp only [hk,not_false_eq_true,and_self])) : q := f h
theorem pVn {p q : Prop} (h : p) (f : p → q := by intro h_;(with_reducible repeat (first | apply Kd.V_alloc | apply Kd.zQk | apply Kd.zQm));exact Kd.zQi h_ (fun _ hk => by simp only [ne_eq] at hk ⊢;simp only [hk,not_false_eq_true,and_self])) : q := f h
theorem bS {w w1 w2 : World} (hb : Below w1.heap.size w1 w2) (h : Below w.heap.size w w1 := by repeat (first | (with_reducible first | exact HB.out | apply zXe | apply zQI | apply zQC | refine zQP ?_ (Aside0.out (by with_reducible assumption))) | exact HB.out)) : Aside0 (Below w.heap.size w w2) := am (zWs h hb)
theorem pM {p : Prop} (h : p := by (try simp only [List.map_toArray,List.map_cons,List.map_nil]);first | done | rfl | (simp only [List.length_drop,List.length_take];rfl)) : p := h
theorem pE {p : Prop} (h : p := by first | rfl | (simp [errW_none,errW_some] <;> rfl) | (simp [*,errW_none,errW_some] <;> rfl)) : p := h
theorem pZ {p : Prop} (h : p := by first | exact Kd.R_nil _ _ _ _ _ | exact Kd.N_nil _ _ _ _ _ | exact Kd.V_nil _ _ _ _ _ | exact Kd.Q_nil _ _ _ _ _ | exact Kd.S_nil _ _ _ _ _) : p := h
theorem pD {p : Prop} [Decidable p] (h : decide p = true := by first | (with_reducible assumption) | assumption) : p := of_decide_eq_true h
theorem pG {p : Prop} (h : p := by first | (with_reducible exact HG.out) | (with_reducible exact zJw HG.out _) | exact zZq HG.out pB | exact zZq HG.out pB | (repeat (first | (with_reducible exact HG.out) | apply zJw | apply zHe))) : p := h
theorem pA {p : Prop} (h : p := by simp only [Act.put,List.setIfInBounds_toArray,List.set_cons_zero,List.set_cons_succ,i64_w,i32_w];try rfl) : p := h
theorem pA2 {p : Prop} (h : p := by simp only [zKu,Act.put,List.setIfInBounds_toArray,List.set_cons_zero,List.set_cons_succ];try rfl) : p := h
theorem pX {α : Type} {d : Kd α} {e : Nat} {w : World} {base : Nat} {ok : Nat → Prop} {v : Value} {xs : List α} {g t : Nat} {cells : Array Value} (h : d.R e w base ok v xs) (hb : w.heap[g]? = some (.cells cells t (0,0))) (ht : e ≠ t ∨ ∀ k,ok k → k ≠ g := by first | (left;decide) | (right;intro k_ h_;first | exact h_ | exact h_.2 | exact h_.1.2 | exact h_.2.2 | exact h_.2.1 | exact h_.1.1.2 | exact h_.1.2.2 | exact h_.2.2.1 | exact h_.2.2.2)) : some g ≠ v.ownBlock := by
 rcases ht with ht | ht
 ·exact Kd.R_ne h hb ht
 ·intro e_;exact ht g (h.1 g e_.symm) rfl
def bm (n k : Nat) : Array Bool := ((List.range n).map (Nat.testBit k)).toArray
theorem cz0 {W : World} {g : Nat} {t : TypeId} {x0 : Value} {l : List Value} (h : W.heap[g]? = some (.cells (List.toArray (x0 :: l)) t (0,0))) : W.cell? ⟨g,0,none⟩ = some x0 := (zQK h 0).trans rfl
theorem cz1 {W : World} {g : Nat} {t : TypeId} {x0 x1 : Value} {l : List Value} (h : W.heap[g]? = some (.cells (List.toArray (x0 :: x1 :: l)) t (0,0))) : W.cell? ⟨g,1,none⟩ = some x1 := (zQK h 1).trans rfl
theorem cz2 {W : World} {g : Nat} {t : TypeId} {x0 x1 x2 : Value} {l : List Value} (h : W.heap[g]? = some (.cells (List.toArray (x0 :: x1 :: x2 :: l)) t (0,0))) : W.cell? ⟨g,2,none⟩ = some x2 := (zQK h 2).trans rfl
theorem cz3 {W : World} {g : Nat} {t : TypeId} {x0 x1 x2 x3 : Value} {l : List Value} (h : W.heap[g]? = some (.cells (List.toArray (x0 :: x1 :: x2 :: x3 :: l)) t (0,0))) : W.cell? ⟨g,3,none⟩ = some x3 := (zQK h 3).trans rfl
theorem cf1 {W : World} {g : Nat} {t : TypeId} {x0 : Value} (h : W.heap[g]? = some (.cells #[x0] t (0,0))) : W.cell? ⟨g,0,none⟩ = some x0 ∧ W.frozen? ⟨g,0,none⟩ = false := ⟨(zQK h 0).trans rfl,zQz h 0⟩
theorem cf2 {W : World} {g : Nat} {t : TypeId} {x0 x1 : Value} (h : W.heap[g]? = some (.cells #[x0,x1] t (0,0))) : W.cell? ⟨g,0,none⟩ = some x0 ∧ W.cell? ⟨g,1,none⟩ = some x1 ∧ W.frozen? ⟨g,0,none⟩ = false ∧ W.frozen? ⟨g,1,none⟩ = false := ⟨(zQK h 0).trans rfl,(zQK h 1).trans rfl,zQz h 0,zQz h 1⟩
theorem cf4 {W : World} {g : Nat} {t : TypeId} {x0 x1 x2 x3 : Value} (h : W.heap[g]? = some (.cells #[x0,x1,x2,x3] t (0,0))) : W.cell? ⟨g,0,none⟩ = some x0 ∧ W.cell? ⟨g,1,none⟩ = some x1 ∧ W.cell? ⟨g,2,none⟩ = some x2 ∧ W.cell? ⟨g,3,none⟩ = some x3 ∧ W.frozen? ⟨g,0,none⟩ = false ∧ W.frozen? ⟨g,1,none⟩ = false ∧ W.frozen? ⟨g,2,none⟩ = false ∧ W.frozen? ⟨g,3,none⟩ = false := ⟨(zQK h 0).trans rfl,(zQK h 1).trans rfl,(zQK h 2).trans rfl,(zQK h 3).trans rfl,zQz h 0,zQz h 1,zQz h 2,zQz h 3⟩
end Go.Proofs.YtongfmeediokmaaGreatDoor.Pr
end
section
namespace Go.Proofs.YtongfmeediokmaaGreatDoor.Pv
open Go.RowKit Go.Proofs.YtongfmeediokmaaGreatDoorW.PrintWords Go.Proofs.YtongfmeediokmaaGreatDoorW.PrintLast Go.Proofs.YtongfmeediokmaaGreatDoorW.PrintMore Go.Proofs.YtongfmeediokmaaGreatDoor.Pr
attribute [local go_sem] zXc zXa zXm zXl zQO zQN zXb zQZ
set_option maxHeartbeats 8000000
set_option maxRecDepth 100000
def errW : Option Int → Value
  | none => .nilIface
  | some c => .iface 0 (.int .i64 c)
theorem errW_none : errW none = .nilIface := rfl
theorem errW_some (c : Int) : errW (some c) = .iface 0 (.int .i64 c) := rfl
def flo_Canon.f (a0 : Int) : Option (Int) := (flo_canon.f a0).bind fun t101 => (some t101)
theorem flo_Canon.calls (a0 : Int) (r : Int) (w : World) (h : flo_Canon.f a0 = some r) :
  Calls Tryz.prog 25 #[.int .u64 a0] w fun e w' => e = .returned (.int .u64 r) ∧ Drawn0 w w' := by
 have H : ((flo_canon.f a0).bind fun aA => (some aA)) = some r := h;clear h;obtain ⟨aA,A2,H⟩ := oB H;(try dsimp only at H);obtain rfl := Option.some.inj H;go_enter Tryz.func25,Tryz.ntmps25;go_wp2_with (first | ((with_reducible refine zQb (f := 36) rfl ?_);refine zQh (some 4) rfl rfl Tryz.func36 (by kernel_rfl) rfl #[.int .u64 a0] rfl pM ?_;(with_reducible refine (flo_canon.calls a0 aA _ A2.out).mono ?_);rintro e w' ⟨rfl,⟨nd,rfl⟩⟩;refine ⟨_,rfl,?_⟩))
 go_ret
 exact ⟨pS,pQ0⟩
def value_normal.j0 : Nat → Int → Bool → Int → Int → ByteArray → Int → Option (Int × Int × ByteArray × Int)
 | 0,_,_,_,_,_,_ => none
 | k + 1,x4,x5,x103000,x103001,x103002,x103003 => if x5 = true then (some (x103000,0,(⟨#[]⟩ : ByteArray),0)) else (if x4 = 3 then ((flo_Canon.f x103001).bind fun t104 => (some (x103000,t104,(⟨#[]⟩ : ByteArray),0))) else (if x4 = 4 then (some (x103000,0,x103002,0)) else (if x4 = 5 then (some (x103000,0,(⟨#[]⟩ : ByteArray),x103003)) else (if x4 = 6 then (some (x103000,0,(⟨#[]⟩ : ByteArray),x103003)) else (if x4 = 7 then (some (x103000,0,(⟨#[]⟩ : ByteArray),x103003)) else (if x4 = 8 then (some (x103000,0,(⟨#[]⟩ : ByteArray),x103003)) else (some (0,0,(⟨#[]⟩ : ByteArray),0))))))))
def value_normal.f (k : Nat) (a0_0 : Int) (a0_1 : Int) (a0_2 : ByteArray) (a0_3 : Int) : Option (Int × Int × ByteArray × Int) := if a0_0 = 1 then (value_normal.j0 k a0_0 (a0_0 == 1) a0_0 a0_1 a0_2 a0_3) else (value_normal.j0 k a0_0 (a0_0 == 2) a0_0 a0_1 a0_2 a0_3)
theorem value_normal.mono_l : ∀ k,(∀ y0 y1 y2 y3 y4 y5,LeO (value_normal.j0 k y0 y1 y2 y3 y4 y5) (value_normal.j0 (k + 1) y0 y1 y2 y3 y4 y5))
 | 0 => fun _ _ _ _ _ _ r h => by simp [value_normal.j0] at h
 | k + 1 => by
  have ih0 := value_normal.mono_l k
  ·intro y0 y1 y2 y3 y4 y5;unfold value_normal.j0;repeat' first
   | (with_reducible exact ih0 _ _ _ _ _ _)
   | (with_reducible exact LeO.refl _)
   | (with_reducible exact LeO.none _)
   | (with_reducible refine LeO.ite ?_ ?_)
   | (with_reducible refine LeO.bind ?_ (fun _ => ?_))
   | exact ih0 _ _ _ _ _ _
   | exact LeO.none _
   | refine LeO.ite ?_ ?_
   | refine LeO.bind ?_ (fun _ => ?_)
theorem value_normal.mono : ∀ a0 a1 a2 a3 k,LeO (value_normal.f k a0 a1 a2 a3) (value_normal.f (k + 1) a0 a1 a2 a3) := by
 intro a0 a1 a2 a3 k;have ih0 := value_normal.mono_l k;unfold value_normal.f
 repeat' first
   | (with_reducible exact ih0 _ _ _ _ _ _)
   | (with_reducible exact LeO.refl _)
   | (with_reducible exact LeO.none _)
   | (with_reducible refine LeO.ite ?_ ?_)
   | (with_reducible refine LeO.bind ?_ (fun _ => ?_))
   | exact ih0 _ _ _ _ _ _
   | exact LeO.none _
   | refine LeO.ite ?_ ?_
   | refine LeO.bind ?_ (fun _ => ?_)
theorem value_normal.calls (k : Nat) (a0_0 : Int) (a0_1 : Int) (a0_2 : ByteArray) (a0_3 : Int) (r1 : Int) (r2 : Int) (r3 : ByteArray) (r4 : Int) (w : World) (h : value_normal.f k a0_0 a0_1 a0_2 a0_3 = some (r1,r2,r3,r4)) :
  Calls Tryz.prog 33 #[.agg #[.int .i64 a0_0,.int .u64 a0_1,.string a0_2,.int .i64 a0_3]] w fun e w' => e = .returned (.agg #[.int .i64 r1,.int .u64 r2,.string r3,.int .i64 r4]) ∧ Below w.heap.size w w' := by
 have hu25 := Tryz.underlying25;have HB := am (Below.refl w.heap.size w);have H := h;unfold value_normal.f at H;clear h;have HC2 := am H;clear H;go_enter Tryz.func33,Tryz.ntmps33
 go_upto_if 5 with (first | ((with_reducible refine zQq (N := 1) rfl ?_);refine zQy ?hg (N := 1) ?hd (cs := #[.int .i64 a0_0,.int .u64 a0_1,.string a0_2,.int .i64 a0_3]) (t := 25) ?hr ?_;(case hd => rfl);(case hg => rfl);(case hr => first | (go_simp;done) | (go_simp;rfl));intro aG hg w3 hbox hb;have aC := am (hbox);have GW102 := am ((by rw [hg];exact (zQa pB) : w.heap.size ≤ aG));have GE102 := am ((by rw [hg];exact (zQa pB) : w.heap.size ≤ aG));replace HB := bS hb;clear hb hbox hg) | ((with_reducible refine zQq (N := 2) rfl ?_);refine zQy ?hg (N := 2) ?hd (cs := #[.int .i64 0,.int .u64 0,.string (⟨#[]⟩ : ByteArray),.int .i64 0]) (t := 25) ?hr ?_;(case hd => rfl);(case hg => rfl);(case hr => first | (go_simp;done) | (go_simp;rfl));intro aD hg w4 hbox hb;have aA := am (hbox);have GW103 := am ((by rw [hg];exact (zQa pB) : w.heap.size ≤ aD));have GE103 := am ((by rw [hg];exact (zQa pB) : w.heap.size ≤ aD));have NB102_103 := am ((by rw [hg];exact Nat.ne_of_lt (pkl aC.out) : aG ≠ aD));have NB103_102 := am ((by rw [hg];exact Nat.ne_of_gt (pkl aC.out) : aD ≠ aG));replace aC := am (pkb aC.out hb);replace HB := bS hb;clear hb hbox hg;have hnb5 := NB102_103.out;have hnc5 := NB103_102.out;have q6 := cf4 aC.out))
 (try simp only [Act.put,List.setIfInBounds_toArray,List.set_cons_zero,List.set_cons_succ])
 go_cut [5] (fun v5 wc => ∃ (kq : Nat) (aU : Bool),v5 = .bool aU ∧ Aside0 (value_normal.j0 kq a0_0 aU a0_0 a0_1 a0_2 a0_3 = some (r1,r2,r3,r4)) ∧ Aside0 (kq ≤ k) ∧ Aside0 (wc.heap[aG]? = some (.cells #[.int .i64 a0_0,.int .u64 a0_1,.string a0_2,.int .i64 a0_3] 25 (0,0))) ∧ Aside0 (wc.heap[aD]? = some (.cells #[.int .i64 0,.int .u64 0,.string (⟨#[]⟩ : ByteArray),.int .i64 0] 25 (0,0))) ∧ Aside0 (Below w.heap.size w wc))
 case first =>
  have H := HC2.out;clear HC2;rcases iT H with ⟨c7,H⟩ | ⟨c7,H⟩
  ·have aH : (a0_0 == 1) = true := beq_iff_eq.mpr c7;have aI : (a0_0 != 1) = false := bne_eq_false_iff_eq.mpr c7;clear c7;(first | rw [aH] | (simp only [i64_w,i32_w];rw [aH]) | rw [aI] | (simp only [i64_w,i32_w];rw [aI]) | skip);have H' := am H;clear H;go_wp2;go_meet
   case rel => exact ⟨_,((a0_0 == 1)),pS,H',⟨by first | omega | exact Nat.le_refl _⟩,⟨pK aC.out⟩,⟨pK aA.out⟩,⟨pB⟩⟩
  ·have aH : (a0_0 == 1) = false := beq_eq_false_iff_ne.mpr c7;have aI : (a0_0 != 1) = true := bne_iff_ne.mpr c7;(first | rw [aH] | (simp only [i64_w,i32_w];rw [aH]) | rw [aI] | (simp only [i64_w,i32_w];rw [aI]) | skip);have H' := am H;clear H;go_wp2;go_meet
   case rel => exact ⟨_,((a0_0 == 2)),pS,H',⟨by first | omega | exact Nat.le_refl _⟩,⟨pK aC.out⟩,⟨pK aA.out⟩,⟨pB⟩⟩
 case rest =>
  clear HC2;(try clear p2);(try clear c3);(try clear c5);(try clear c7);(try clear aH);(try clear aI);(try clear q6);obtain ⟨kq,aU,rfl,HA,bL,aC,aA,HB⟩ := hcut
  cases kq with
  | zero => exact absurd HA.out (by simp [value_normal.j0])
  | succ bM =>
   have H := HA.out;clear HA;simp only [value_normal.j0] at H;by_cases c8 : aU = true
   ·subst c8;rw [if_pos rfl] at H;simp only [Option.some.injEq,Prod.mk.injEq] at H;obtain ⟨rfl,rfl,rfl,rfl⟩ := H;have hnb9 := NB102_103.out;have hnc9 := NB103_102.out;have bN := cf4 aC.out;have bO := cf4 aA.out;go_wp2
    refine bodyPost_ret (results_cell_row rfl _ _ aD 25 #[.int .i64 a0_0,.int .u64 0,.string (⟨#[]⟩ : ByteArray),.int .i64 0] (0,0) _ rfl (by (iterate 3 ((with_reducible repeat (first | refine zQc ?_ _ | refine zQe ?_ | refine zQd ?_ _));refine zQl (cs := #[.int .i64 a0_0,.int .u64 0,.string (⟨#[]⟩ : ByteArray),.int .i64 0]) ?_ _ _ rfl));(with_reducible repeat (first | refine zQc ?_ _ | refine zQe ?_ | refine zQd ?_ _));refine zQl (cs := #[.int .i64 0,.int .u64 0,.string (⟨#[]⟩ : ByteArray),.int .i64 0]) ?_ 0 _ rfl;(with_reducible repeat (first | refine zQc ?_ _ | refine zQe ?_ | refine zQd ?_ _));exact aA.out) Tryz.underlying25 rfl (by kernel_rfl)) rfl ?_
    exact ⟨pE,pB⟩
   ·replace c8 := Bool.eq_false_iff.mpr c8;subst c8;rw [if_neg (show ¬ (false = true) by decide)] at H;rcases iT H with ⟨aJ,H⟩ | ⟨aJ,H⟩
    ·have aX : (a0_0 == 3) = true := beq_iff_eq.mpr aJ;have aY : (a0_0 != 3) = false := bne_eq_false_iff_eq.mpr aJ;clear aJ;obtain ⟨aV,bK,H⟩ := oB H;(try dsimp only at H);simp only [Option.some.injEq,Prod.mk.injEq] at H;obtain ⟨rfl,rfl,rfl,rfl⟩ := H;(try go_wp2);replace aC := am (zQe aC.out);replace aA := am (zQe aA.out);replace HB := am (zQC HB.out);refine zXS (n := 7) (S := fun w' => w'.cell? ⟨aG,0,none⟩ = some (.int .i64 a0_0) ∧ w'.cell? ⟨aG,1,none⟩ = some (.int .u64 a0_1) ∧ w'.cell? ⟨aG,2,none⟩ = some (.string a0_2) ∧ w'.cell? ⟨aG,3,none⟩ = some (.int .i64 a0_3)) (ds := []) (bm 7 0) (by kernel_rfl) rfl rfl ⟨cz0 aC.out,cz1 aC.out,cz2 aC.out,cz3 aC.out⟩ (fun hHeld => ?_);generalize wc.drew = aW at aC aA HB hHeld ⊢
     refine pure_ (i := 0) (N := some 13) (v := ?_) (a' := ?_) (bm 7 1) rfl rfl (by kernel_rfl) (fun _ _ _ h => h) (Or.inl ⟨by kernel_rfl,?_⟩) ?_ ?_
     rotate_left;(intro w';go_simp;with_reducible rfl);rotate_left;exact pA
     refine pure_ (i := 2) (N := some 15) (v := ?_) (a' := ?_) (bm 7 5) rfl rfl (by kernel_rfl) (fun _ _ _ h => h) (Or.inl ⟨by kernel_rfl,?_⟩) ?_ ?_
     rotate_left;(intro w';go_simp;with_reducible rfl);rotate_left;exact pA
     refine take_ (i := 1) (N := some 14) (v := ?_) (a' := ?_) (bm 7 7) rfl rfl (by kernel_rfl) (fun _ _ _ h => h) (Or.inl ⟨by kernel_rfl,?_⟩) hHeld ?_ ?_
     rotate_left;(rintro w' ⟨s0,s1,s2,s3⟩;go_simp;with_reducible rfl);rotate_left;exact pA
     refine take_ (i := 3) (N := some 16) (v := ?_) (a' := ?_) (bm 7 15) rfl rfl (by kernel_rfl) (fun _ _ _ h => h) (Or.inl ⟨by kernel_rfl,?_⟩) hHeld ?_ ?_
     rotate_left;(rintro w' ⟨s0,s1,s2,s3⟩;go_simp;with_reducible rfl);rotate_left;exact pA;refine one_ (i := 4) (N := some 17) (bm 7 31) rfl rfl (by kernel_rfl) (by decide) (fun K hK => ?_)
     refine goes_ Tryz.func25 (by kernel_rfl) rfl #[.int .u64 a0_1] (by rfl) rfl rfl pM ?_
     with_reducible refine (flo_Canon.calls a0_1 aV _ bK.out).mono ?_
     rintro e w' ⟨rfl,⟨nd,rfl⟩⟩;refine ⟨_,rfl,?_⟩;refine hK.out _ _ ⟨cz0 aC.out,cz1 aC.out,cz2 aC.out,cz3 aC.out⟩ (fun hHeld => ?_);clear hK K
     refine norm_ (a' := ?_) ?_ ?_
     rotate_left;(show Act.put _ (some 17) _ = _;exact pA)
     refine pure_ (i := 5) (N := some 18) (v := ?_) (a' := ?_) (bm 7 63) rfl rfl (by kernel_rfl) (fun _ _ _ h => h) (Or.inl ⟨by kernel_rfl,?_⟩) ?_ ?_
     rotate_left;(intro w';go_simp;with_reducible rfl);rotate_left;exact pA;refine one_ (i := 6) (N := none) (bm 7 127) rfl rfl (by kernel_rfl) (by decide) (fun K hK => ?_);have hs15 : aW.cell? ⟨aD,0,none⟩ = some (.int .i64 0) := cz0 aA.out;have hfs15 := zQz aA.out 0;have hns15_0 := NB102_103.out;have hms15_0 := NB103_102.out;have hs16 : aW.cell? ⟨aD,1,none⟩ = some (.int .u64 0) := cz1 aA.out;have hfs16 := zQz aA.out 1;have hns16_0 := NB102_103.out;have hms16_0 := NB103_102.out;have hs17 : aW.cell? ⟨aD,2,none⟩ = some (.string (⟨#[]⟩ : ByteArray)) := cz2 aA.out;have hfs17 := zQz aA.out 2;have hns17_0 := NB102_103.out;have hms17_0 := NB103_102.out;have hs18 : aW.cell? ⟨aD,3,none⟩ = some (.int .i64 0) := cz3 aA.out;have hfs18 := zQz aA.out 3;have hns18_0 := NB102_103.out;have hms18_0 := NB103_102.out;refine skip_ (w1 := ?_) ?hw rfl ?_ ?_;(case hw => kernel_rfl);rotate_left
     ·go_simp
      rfl
     refine hK.out _ _ ⟨(by (repeat (with_reducible refine (cell_far (p := ⟨aD,_,none⟩) NB102_103.out _).trans ?_));exact hHeld.1),(by (repeat (with_reducible refine (cell_far (p := ⟨aD,_,none⟩) NB102_103.out _).trans ?_));exact hHeld.2.1),(by (repeat (with_reducible refine (cell_far (p := ⟨aD,_,none⟩) NB102_103.out _).trans ?_));exact hHeld.2.2.1),(by (repeat (with_reducible refine (cell_far (p := ⟨aD,_,none⟩) NB102_103.out _).trans ?_));exact hHeld.2.2.2)⟩ (fun hHeld => ?_);clear hK K
     refine done_ (by kernel_rfl) ?_
     try go_wp2
     refine bodyPost_ret (results_cell_row rfl _ _ aD 25 #[.int .i64 a0_0,.int .u64 aV,.string (⟨#[]⟩ : ByteArray),.int .i64 0] (0,0) _ rfl (by (iterate 2 ((with_reducible repeat (first | refine zQc ?_ _ | refine zQe ?_ | refine zQd ?_ _));refine zQl (cs := #[.int .i64 a0_0,.int .u64 aV,.string (⟨#[]⟩ : ByteArray),.int .i64 0]) ?_ _ _ rfl));(with_reducible repeat (first | refine zQc ?_ _ | refine zQe ?_ | refine zQd ?_ _));refine zQl (cs := #[.int .i64 a0_0,.int .u64 0,.string (⟨#[]⟩ : ByteArray),.int .i64 0]) ?_ 1 _ rfl;(with_reducible repeat (first | refine zQc ?_ _ | refine zQe ?_ | refine zQd ?_ _));refine zQl (cs := #[.int .i64 0,.int .u64 0,.string (⟨#[]⟩ : ByteArray),.int .i64 0]) ?_ 0 _ rfl;(with_reducible repeat (first | refine zQc ?_ _ | refine zQe ?_ | refine zQd ?_ _));exact aA.out) Tryz.underlying25 rfl (by kernel_rfl)) rfl ?_
     exact ⟨pE,pB⟩
    ·have aX : (a0_0 == 3) = false := beq_eq_false_iff_ne.mpr aJ;have aY : (a0_0 != 3) = true := bne_iff_ne.mpr aJ;rcases iT H with ⟨aK,H⟩ | ⟨aK,H⟩
     ·have aZ : (a0_0 == 4) = true := beq_iff_eq.mpr aK;have bA : (a0_0 != 4) = false := bne_eq_false_iff_eq.mpr aK;clear aK;simp only [Option.some.injEq,Prod.mk.injEq] at H;obtain ⟨rfl,rfl,rfl,rfl⟩ := H;have hnb20 := NB102_103.out;have hnc20 := NB103_102.out;have bP := cf4 aC.out;have bQ := cf4 aA.out;go_wp2
      refine bodyPost_ret (results_cell_row rfl _ _ aD 25 #[.int .i64 a0_0,.int .u64 0,.string a0_2,.int .i64 0] (0,0) _ rfl (by (with_reducible repeat (first | refine zQc ?_ _ | refine zQe ?_ | refine zQd ?_ _));refine zQl (cs := #[.int .i64 a0_0,.int .u64 0,.string a0_2,.int .i64 0]) ?_ 3 _ rfl;(iterate 2 ((with_reducible repeat (first | refine zQc ?_ _ | refine zQe ?_ | refine zQd ?_ _));refine zQl (cs := #[.int .i64 a0_0,.int .u64 0,.string (⟨#[]⟩ : ByteArray),.int .i64 0]) ?_ _ _ rfl));(with_reducible repeat (first | refine zQc ?_ _ | refine zQe ?_ | refine zQd ?_ _));refine zQl (cs := #[.int .i64 0,.int .u64 0,.string (⟨#[]⟩ : ByteArray),.int .i64 0]) ?_ 0 _ rfl;(with_reducible repeat (first | refine zQc ?_ _ | refine zQe ?_ | refine zQd ?_ _));exact aA.out) Tryz.underlying25 rfl (by kernel_rfl)) rfl ?_
      exact ⟨pE,pB⟩
     ·have aZ : (a0_0 == 4) = false := beq_eq_false_iff_ne.mpr aK;have bA : (a0_0 != 4) = true := bne_iff_ne.mpr aK;rcases iT H with ⟨aM,H⟩ | ⟨aM,H⟩
      ·have bB : (a0_0 == 5) = true := beq_iff_eq.mpr aM;have bC : (a0_0 != 5) = false := bne_eq_false_iff_eq.mpr aM;clear aM;simp only [Option.some.injEq,Prod.mk.injEq] at H;obtain ⟨rfl,rfl,rfl,rfl⟩ := H;have hnb24 := NB102_103.out;have hnc24 := NB103_102.out;have bT := cf4 aC.out;have bV := cf4 aA.out;go_wp2
       refine bodyPost_ret (results_cell_row rfl _ _ aD 25 #[.int .i64 a0_0,.int .u64 0,.string (⟨#[]⟩ : ByteArray),.int .i64 a0_3] (0,0) _ rfl (by (iterate 3 ((with_reducible repeat (first | refine zQc ?_ _ | refine zQe ?_ | refine zQd ?_ _));refine zQl (cs := #[.int .i64 a0_0,.int .u64 0,.string (⟨#[]⟩ : ByteArray),.int .i64 0]) ?_ _ _ rfl));(with_reducible repeat (first | refine zQc ?_ _ | refine zQe ?_ | refine zQd ?_ _));refine zQl (cs := #[.int .i64 0,.int .u64 0,.string (⟨#[]⟩ : ByteArray),.int .i64 0]) ?_ 0 _ rfl;(with_reducible repeat (first | refine zQc ?_ _ | refine zQe ?_ | refine zQd ?_ _));exact aA.out) Tryz.underlying25 rfl (by kernel_rfl)) rfl ?_
       exact ⟨pE,pB⟩
      ·have bB : (a0_0 == 5) = false := beq_eq_false_iff_ne.mpr aM;have bC : (a0_0 != 5) = true := bne_iff_ne.mpr aM;rcases iT H with ⟨aN,H⟩ | ⟨aN,H⟩
       ·have bE : (a0_0 == 6) = true := beq_iff_eq.mpr aN;have bF : (a0_0 != 6) = false := bne_eq_false_iff_eq.mpr aN;clear aN;simp only [Option.some.injEq,Prod.mk.injEq] at H;obtain ⟨rfl,rfl,rfl,rfl⟩ := H;have hnb28 := NB102_103.out;have hnc28 := NB103_102.out;have bW := cf4 aC.out;have bX := cf4 aA.out;go_wp2
        refine bodyPost_ret (results_cell_row rfl _ _ aD 25 #[.int .i64 a0_0,.int .u64 0,.string (⟨#[]⟩ : ByteArray),.int .i64 a0_3] (0,0) _ rfl (by (iterate 3 ((with_reducible repeat (first | refine zQc ?_ _ | refine zQe ?_ | refine zQd ?_ _));refine zQl (cs := #[.int .i64 a0_0,.int .u64 0,.string (⟨#[]⟩ : ByteArray),.int .i64 0]) ?_ _ _ rfl));(with_reducible repeat (first | refine zQc ?_ _ | refine zQe ?_ | refine zQd ?_ _));refine zQl (cs := #[.int .i64 0,.int .u64 0,.string (⟨#[]⟩ : ByteArray),.int .i64 0]) ?_ 0 _ rfl;(with_reducible repeat (first | refine zQc ?_ _ | refine zQe ?_ | refine zQd ?_ _));exact aA.out) Tryz.underlying25 rfl (by kernel_rfl)) rfl ?_
        exact ⟨pE,pB⟩
       ·have bE : (a0_0 == 6) = false := beq_eq_false_iff_ne.mpr aN;have bF : (a0_0 != 6) = true := bne_iff_ne.mpr aN;rcases iT H with ⟨aQ,H⟩ | ⟨aQ,H⟩
        ·have bG : (a0_0 == 7) = true := beq_iff_eq.mpr aQ;have bH : (a0_0 != 7) = false := bne_eq_false_iff_eq.mpr aQ;clear aQ;simp only [Option.some.injEq,Prod.mk.injEq] at H;obtain ⟨rfl,rfl,rfl,rfl⟩ := H;have hnb32 := NB102_103.out;have hnc32 := NB103_102.out;have bY := cf4 aC.out;have bZ := cf4 aA.out;go_wp2
         refine bodyPost_ret (results_cell_row rfl _ _ aD 25 #[.int .i64 a0_0,.int .u64 0,.string (⟨#[]⟩ : ByteArray),.int .i64 a0_3] (0,0) _ rfl (by (iterate 3 ((with_reducible repeat (first | refine zQc ?_ _ | refine zQe ?_ | refine zQd ?_ _));refine zQl (cs := #[.int .i64 a0_0,.int .u64 0,.string (⟨#[]⟩ : ByteArray),.int .i64 0]) ?_ _ _ rfl));(with_reducible repeat (first | refine zQc ?_ _ | refine zQe ?_ | refine zQd ?_ _));refine zQl (cs := #[.int .i64 0,.int .u64 0,.string (⟨#[]⟩ : ByteArray),.int .i64 0]) ?_ 0 _ rfl;(with_reducible repeat (first | refine zQc ?_ _ | refine zQe ?_ | refine zQd ?_ _));exact aA.out) Tryz.underlying25 rfl (by kernel_rfl)) rfl ?_
         exact ⟨pE,pB⟩
        ·have bG : (a0_0 == 7) = false := beq_eq_false_iff_ne.mpr aQ;have bH : (a0_0 != 7) = true := bne_iff_ne.mpr aQ;rcases iT H with ⟨aT,H⟩ | ⟨aT,H⟩
         ·have bI : (a0_0 == 8) = true := beq_iff_eq.mpr aT;have bJ : (a0_0 != 8) = false := bne_eq_false_iff_eq.mpr aT;clear aT;simp only [Option.some.injEq,Prod.mk.injEq] at H;obtain ⟨rfl,rfl,rfl,rfl⟩ := H;have hnb36 := NB102_103.out;have hnc36 := NB103_102.out;have cB := cf4 aC.out;have cK := cf4 aA.out;go_wp2
          refine bodyPost_ret (results_cell_row rfl _ _ aD 25 #[.int .i64 a0_0,.int .u64 0,.string (⟨#[]⟩ : ByteArray),.int .i64 a0_3] (0,0) _ rfl (by (iterate 3 ((with_reducible repeat (first | refine zQc ?_ _ | refine zQe ?_ | refine zQd ?_ _));refine zQl (cs := #[.int .i64 a0_0,.int .u64 0,.string (⟨#[]⟩ : ByteArray),.int .i64 0]) ?_ _ _ rfl));(with_reducible repeat (first | refine zQc ?_ _ | refine zQe ?_ | refine zQd ?_ _));refine zQl (cs := #[.int .i64 0,.int .u64 0,.string (⟨#[]⟩ : ByteArray),.int .i64 0]) ?_ 0 _ rfl;(with_reducible repeat (first | refine zQc ?_ _ | refine zQe ?_ | refine zQd ?_ _));exact aA.out) Tryz.underlying25 rfl (by kernel_rfl)) rfl ?_
          exact ⟨pE,pB⟩
         ·have bI : (a0_0 == 8) = false := beq_eq_false_iff_ne.mpr aT;have bJ : (a0_0 != 8) = true := bne_iff_ne.mpr aT;simp only [Option.some.injEq,Prod.mk.injEq] at H;obtain ⟨rfl,rfl,rfl,rfl⟩ := H;have hnb39 := NB103_102.out;have hnc39 := NB102_103.out;have cO := cf4 aA.out;go_wp2
          refine bodyPost_ret (results_cell_row rfl _ _ aD 25 #[.int .i64 0,.int .u64 0,.string (⟨#[]⟩ : ByteArray),.int .i64 0] (0,0) _ rfl (by (iterate 4 ((with_reducible repeat (first | refine zQc ?_ _ | refine zQe ?_ | refine zQd ?_ _));refine zQl (cs := #[.int .i64 0,.int .u64 0,.string (⟨#[]⟩ : ByteArray),.int .i64 0]) ?_ _ _ rfl));(with_reducible repeat (first | refine zQc ?_ _ | refine zQe ?_ | refine zQd ?_ _));exact aA.out) Tryz.underlying25 rfl (by kernel_rfl)) rfl ?_
          exact ⟨pE,pB⟩
end Go.Proofs.YtongfmeediokmaaGreatDoor.Pv
end
section
namespace Go.Proofs.YtongfmeediokmaaGreatDoor.Pr
open Go.RowKit Go.Proofs.YtongfmeediokmaaGreatDoor.Pv Go.Proofs.YtongfmeediokmaaGreatDoorW.PrintWords Go.Proofs.YtongfmeediokmaaGreatDoorW.PrintLast Go.Proofs.YtongfmeediokmaaGreatDoorW.PrintMore
def value_name.f (k : Nat) (a0_0 : Int) (a0_1 : Int) (a0_2 : ByteArray) (a0_3 : Int) : Option ByteArray := (value_normal.f k a0_0 a0_1 a0_2 a0_3).bind fun t => if 0 ≤ t.1 ∧ t.1 < 9 then some (zBw.getD t.1.toNat ⟨#[]⟩) else none
theorem value_name.mono : ∀ a0 a1 a2 a3 k,LeO (value_name.f k a0 a1 a2 a3) (value_name.f (k + 1) a0 a1 a2 a3) := by
 intro a0 a1 a2 a3 k;unfold value_name.f;exact LeO.bind (value_normal.mono _ _ _ _ _) (fun _ => LeO.refl _)
theorem zFs (a b : Int) (c : ByteArray) (d : Int) (W : World) : (Instr.field 25 (.agg #[.int .i64 a,.int .u64 b,.string c,.int .i64 d]) 0).run Tryz.prog W = .ok (.int .i64 a) W := by kernel_rfl
set_option maxHeartbeats 800000 in
set_option maxRecDepth 100000 in
theorem value_name.calls (k : Nat) (a0_0 : Int) (a0_1 : Int) (a0_2 : ByteArray) (a0_3 : Int) (r : ByteArray) (w : World) (hG : zXL w) (h : value_name.f k a0_0 a0_1 a0_2 a0_3 = some r) :
  Calls Tryz.prog 32 #[.agg #[.int .i64 a0_0,.int .u64 a0_1,.string a0_2,.int .i64 a0_3]] w fun e w' => e = .returned (.string r) ∧ Below w.heap.size w w' := by
 unfold value_name.f at h;obtain ⟨⟨t0,t1,t2,t3⟩,h1,h2⟩ := Option.bind_eq_some_iff.mp h;dsimp only at h2;by_cases hb : 0 ≤ t0 ∧ t0 < 9
 ·rw [if_pos hb] at h2;have H1 := Aside0.mk h1;have H2 := Aside0.mk (Option.some.inj h2);have HG := Aside0.mk hG;have hfld := zFs;have q1 : (0 ≤ t0) = True := eq_true hb.1;have q2 : (t0 < 9) = True := eq_true hb.2;have HT := Aside0.mk (show t0.toNat < 9 by omega);clear h h1 h2 hG hb;go_enter Tryz.func32,Tryz.ntmps32;go_wp2_with (go_at_call 33;refine (value_normal.calls k _ _ _ _ t0 t1 t2 t3 _ H1.out).mono ?_;rintro e w1 ⟨rfl,hb1⟩;have HB1 := Aside0.mk hb1;clear hb1;have hq := (zZq (zZq HG.out ((Below.refl w.heap.size w).alloc (Nat.le_refl _) _)) HB1.out).2 t0.toNat HT.out)
  go_ret
  exact ⟨congrArg (fun s => Ending.returned (.string s)) ((List.getD_eq_getElem?_getD ..).symm.trans H2.out),zWs ((Below.refl w.heap.size w).alloc (Nat.le_refl _) _) HB1.out⟩
 ·rw [if_neg hb] at h2
  cases h2
end Go.Proofs.YtongfmeediokmaaGreatDoor.Pr
end
section
namespace Go.Proofs.YtongfmeediokmaaGreatDoor.Pr
open Go.RowKit Go.Proofs.YtongfmeediokmaaGreatDoorW.PrintWords Go.Proofs.YtongfmeediokmaaGreatDoorW.PrintLast Go.Proofs.YtongfmeediokmaaGreatDoorW.PrintMore Go.Proofs.YtongfmeediokmaaGreatDoor.Pv
attribute [local go_sem] zXc zXa zXm zXl zQO zQN zXb zQZ
set_option maxHeartbeats 8000000
set_option maxRecDepth 100000
theorem eqA25 (d : Nat) (w : World) (x0 y0 : Int) (x1 y1 : Int) (x2 y2 : ByteArray) (x3 y3 : Int) :
  (Op.equalIn (d + 2) 25 (.agg #[.int .i64 x0,.int .u64 x1,.string x2,.int .i64 x3]) (.agg #[.int .i64 y0,.int .u64 y1,.string y2,.int .i64 y3])).run Tryz.prog w = .ok (x0 == y0 && (x1 == y1 && (x2.toList == y2.toList && (x3 == y3)))) w := by
 refine zFR Tryz.underlying25 (by kernel_rfl) ?_
 refine zWK (by rfl) (by go_simp;rfl) (by go_simp;rfl) (by go_simp) ?_
 refine zWK (by rfl) (by go_simp;rfl) (by go_simp;rfl) (by go_simp) ?_
 refine zWK (by rfl) (by go_simp;rfl) (by go_simp;rfl) (by go_simp) ?_
 exact zHh (by rfl) (by go_simp;rfl) (by go_simp;rfl) (by go_simp)
def b_trim.l0 : Nat → List Int → Option (List Int)
 | 0,_ => none
 | k + 1,x0 => if (x0.length : Int) > 0 then (if 0 ≤ (wrap64 ((x0.length : Int) - 1)) then (if (wrap64 ((x0.length : Int) - 1)) < (x0.length : Int) then (if (rd x0 (wrap64 ((x0.length : Int) - 1))) = 0 then (if (wrap64 ((x0.length : Int) - 1)) ≤ (x0.length : Int) then (b_trim.l0 k (x0.take ((wrap64 ((x0.length : Int) - 1)) : Int).toNat)) else (none)) else (some x0)) else (none)) else (none)) else (some x0)
def b_trim.f (k : Nat) (l0 : List Int) : Option (List Int) := b_trim.l0 k l0
theorem b_trim.mono_l : ∀ k,(∀ y0,LeO (b_trim.l0 k y0) (b_trim.l0 (k + 1) y0))
 | 0 => fun _ r h => by simp [b_trim.l0] at h
 | k + 1 => by
  have ih0 := b_trim.mono_l k
  ·intro y0;unfold b_trim.l0;repeat' first
   | (with_reducible exact ih0 _)
   | (with_reducible exact LeO.refl _)
   | (with_reducible exact LeO.none _)
   | (with_reducible refine LeO.ite ?_ ?_)
   | (with_reducible refine LeO.bind ?_ (fun _ => ?_))
   | exact ih0 _
   | exact LeO.none _
   | refine LeO.ite ?_ ?_
   | refine LeO.bind ?_ (fun _ => ?_)
theorem b_trim.mono : ∀ a0 k,LeO (b_trim.f k a0) (b_trim.f (k + 1) a0) := by
 intro a0 k;have ih0 := b_trim.mono_l k;unfold b_trim.f
 repeat' first
   | (with_reducible exact ih0 _)
   | (with_reducible exact LeO.refl _)
   | (with_reducible exact LeO.none _)
   | (with_reducible refine LeO.ite ?_ ?_)
   | (with_reducible refine LeO.bind ?_ (fun _ => ?_))
   | exact ih0 _
   | exact LeO.none _
   | refine LeO.ite ?_ ?_
   | refine LeO.bind ?_ (fun _ => ?_)
theorem b_trim.calls (k : Nat) (P0_ : Nat → Prop) (A0 : Option Addr) (c0 : Nat) (l0 : List Int) (r : List Int) (w : World) (hs0 : Kd.V (Kd.int .u32) 72 w w.heap.size (fun k_ => P0_ k_) (.slice A0 l0.length c0) l0) (h : b_trim.f k l0 = some r) :
  Calls Tryz.prog 85 #[.slice A0 l0.length c0] w fun e w' => ∃ v0_ : Value,e = .returned (v0_) ∧ Kd.V (Kd.int .u32) 72 w' w.heap.size (fun k_ => (P0_ k_ ∨ w.heap.size ≤ k_)) v0_ r ∧ Below w.heap.size w w' := by
 have bE := am (show Kd.V (Kd.int .u32) 72 w w.heap.size (fun k_ => (P0_ k_ ∨ w.heap.size ≤ k_)) (.slice A0 l0.length c0) l0 from Kd.zQi hs0 (fun k_ hk => .inl hk));have HB := am (Below.refl w.heap.size w);have H : (b_trim.l0 k l0) = some r := h;clear h;have H' := am H;clear H;go_enter Tryz.func85,Tryz.ntmps85;go_wp2
 go_loopg [0] k (fun kq v0 w' => ∃ (aA : List Int),Aside0 (b_trim.l0 kq aA = some r) ∧ Aside0 (kq ≤ k) ∧ Aside0 (Kd.V (Kd.int .u32) 72 w' w.heap.size (fun k_ => (P0_ k_ ∨ w.heap.size ≤ k_)) v0 aA) ∧ Aside0 (Below w.heap.size w w'))
 case atStart => exact ⟨(l0),H',⟨Nat.le_refl _⟩,⟨by (with_reducible repeat (first | apply Kd.V_alloc | apply Kd.zQk | apply Kd.zQm));exact bE.out⟩,⟨pB⟩⟩
 case round =>
  clear H';obtain ⟨aA,HA,aW,aD,HB⟩ := hrel
  cases gk with
  | zero => exact absurd HA.out (by simp [b_trim.l0])
  | succ k1 =>
   have H := HA.out;clear HA;simp only [b_trim.l0] at H;rcases iT H with ⟨c2,H⟩ | ⟨c2,H⟩
   ·have aX : decide (0 < (aA.length : Int)) = true := decide_eq_true c2;have aY : decide (0 < aA.length) = true := decide_eq_true (by omega);clear c2;obtain ⟨aC,aJ⟩ : ∃ j_ : Int,(wrap64 ((aA.length : Int) - 1)) = j_ := ⟨_,rfl⟩;(replace H : (if 0 ≤ (aC) then (if (aC) < (aA.length : Int) then (if (rd aA (aC)) = 0 then (if (aC) ≤ (aA.length : Int) then (b_trim.l0 k1 (aA.take ((aC) : Int).toNat)) else (none)) else (some aA)) else (none)) else (none)) = some r := by first | (rw [aJ] at H;exact H) | (simp only [aJ] at H ⊢;exact H));have bG : (IntKind.i64.wrap ((aA.length : Int) - 1)) = aC := (i64_w _).trans aJ;obtain ⟨c4,H⟩ := iN H;have bH : decide (0 ≤ (aC)) = true := decide_eq_true c4;clear c4;obtain ⟨c5,H⟩ := iN H;have bI : decide ((aC) < (aA.length : Int)) = true := decide_eq_true c5;clear c5;rcases iT H with ⟨c6,H⟩ | ⟨c6,H⟩
    ·have aZ : ((rd aA (aC)) == 0) = true := beq_iff_eq.mpr c6;have bA : ((rd aA (aC)) != 0) = false := bne_eq_false_iff_eq.mpr c6;clear c6;have bJ := eq_true (pD : 0 ≤ (aC));obtain ⟨c8,H⟩ := iN H;have bK := eq_true c8;have bL : decide ((aC) ≤ (aA.length : Int)) = true := decide_eq_true c8;clear c8;obtain ⟨aI,aK⟩ : ∃ y_ : List Int,y_ = (aA.take ((aC) : Int).toNat) := ⟨_,rfl⟩;replace H : (b_trim.l0 k1 aI) = some r := pI aK H;have aN := am aK;clear aK;have H' := am H;clear H;obtain ⟨bQ,aQ,bF⟩ := Kd.zQw aD.out;subst bF;have aG : 0 ≤ ((aC) : Int) := pD;have aH : (aC) < (aA.length : Int) := pD;obtain ⟨ad101,e101,aT⟩ := Kd.zXi (Kd.zQf aD.out).2.2 (aC) aG aH
     cases e101
     replace aG := eq_true aG;replace aH := eq_true aH;have aU : ((aC) : Int) ≤ ((aA.length : Int) : Int) := pD;obtain ⟨i010,hi010,_,hsz10,_⟩ := info_parts zXO;have hroom10 : aA.length ≤ aQ := (Kd.zQf aD.out).2.1;have hC10 : Kd.F (Kd.int .u32) _ _ (some ad101) aA.length aA := (Kd.V_at (base := w.heap.size) aD.out).2.2;have hcut10 := zHM (P := Tryz.prog) 70 72 .i64 Tryz.underlying70 hi010 (some ad101) aA.length aQ (aC) pD aU hroom10;have hr10 := Kd.zHO (m := ((aC) : Int).toNat) hC10 (by omega);have aM : aI.length = ((aC) : Int).toNat := (by rw [aN.out,List.length_take];omega);rw [← aN.out] at hr10;rw [← aM] at hcut10;have aV := am (show Kd.V (Kd.int .u32) 72 _ w.heap.size _ (.slice (some ad101) aI.length aQ) aI from Kd.V_mk (by omega) hr10);have HC106 := am (show aI.length ≤ aQ from by omega);clear hr10 hC10 hroom10 hi010 hsz10;have KY10 := am aM;clear aM;replace aU := eq_true aU;go_wp2
     go_roundg k1
     case measure => have := aW.out;omega
     case rel => exact ⟨(aI),H',⟨by have := aW.out;omega⟩,⟨by (with_reducible repeat (first | apply Kd.V_alloc | apply Kd.zQk | apply Kd.zQm));exact aV.out⟩,⟨pB⟩⟩
    ·have aZ : ((rd aA (aC)) == 0) = false := beq_eq_false_iff_ne.mpr c6;have bA : ((rd aA (aC)) != 0) = true := bne_iff_ne.mpr c6;obtain rfl := Option.some.inj H;obtain ⟨bM,bN,bB⟩ := Kd.zQw aD.out;subst bB;have aG : 0 ≤ ((aC) : Int) := pD;have aH : (aC) < (aA.length : Int) := pD;obtain ⟨ad101,e101,aT⟩ := Kd.zXi (Kd.zQf aD.out).2.2 (aC) aG aH
     cases e101
     replace aG := eq_true aG;replace aH := eq_true aH;go_wp2
     go_ret
     exact ⟨_,by first | rfl | (simp [errW_none,errW_some] <;> rfl) | (simp only [← aJ];first | rfl | (simp [errW_none,errW_some] <;> rfl)) | (simp [*,errW_none,errW_some] <;> rfl),by (with_reducible repeat (first | apply Kd.V_alloc | apply Kd.zQk | apply Kd.zQm));exact aD.out,pB⟩
   ·have aX : decide (0 < (aA.length : Int)) = false := decide_eq_false c2;have aY : decide (0 < aA.length) = false := decide_eq_false (by omega);clear c2;obtain rfl := Option.some.inj H;obtain ⟨bO,bP,bC⟩ := Kd.zQw aD.out;subst bC;go_wp2
    go_ret
    exact ⟨_,pE,by (with_reducible repeat (first | apply Kd.V_alloc | apply Kd.zQk | apply Kd.zQm));exact aD.out,pB⟩
def b_plus.l0 : Nat → List Int → List Int → Int → List Int → Int → Int → Option (List Int)
 | 0,_,_,_,_,_,_ => none
 | k + 1,x1,x5,x6,x20,x21,x22 => if x22 < x21 then (if 0 ≤ x22 then (if x22 < (x20.length : Int) then (if x22 < (x1.length : Int) then (if x5.length < 35184372088832 then (b_plus.l0 k x1 (x5 ++ [(IntKind.u64.wrap ((IntKind.u64.wrap (x6 + (IntKind.u64.wrap (rd x20 x22)))) + (IntKind.u64.wrap (rd x1 x22)))) % 4294967296]) ((IntKind.u64.wrap ((IntKind.u64.wrap (x6 + (IntKind.u64.wrap (rd x20 x22)))) + (IntKind.u64.wrap (rd x1 x22)))) / 4294967296) x20 x21 (wrap64 (x22 + 1))) else (none)) else (if x5.length < 35184372088832 then (b_plus.l0 k x1 (x5 ++ [(IntKind.u64.wrap (x6 + (IntKind.u64.wrap (rd x20 x22)))) % 4294967296]) ((IntKind.u64.wrap (x6 + (IntKind.u64.wrap (rd x20 x22)))) / 4294967296) x20 x21 (wrap64 (x22 + 1))) else (none))) else (none)) else (none)) else (if x5.length < 35184372088832 then ((b_trim.f k (x5 ++ [(x6) % 4294967296])).bind fun t121 => (some t121)) else (none))
def b_plus.fg (k : Nat) (l0 : List Int) (l1 : List Int) : Option (List Int) := if 0 ≤ wrap64 ((l0.length : Int) + 1) then (if (wrap64 ((l0.length : Int) + 1) : Int).toNat ≤ 70368744177664 then (b_plus.l0 k l1 (List.replicate 0 0) 0 l0 (l0.length : Int) 0) else (none)) else (none)
theorem b_plus.mono_l : ∀ k,(∀ y0 y1 y2 y3 y4 y5,LeO (b_plus.l0 k y0 y1 y2 y3 y4 y5) (b_plus.l0 (k + 1) y0 y1 y2 y3 y4 y5))
 | 0 => fun _ _ _ _ _ _ r h => by simp [b_plus.l0] at h
 | k + 1 => by
  have ih0 := b_plus.mono_l k
  ·intro y0 y1 y2 y3 y4 y5;unfold b_plus.l0;repeat' first
   | (with_reducible exact ih0 _ _ _ _ _ _)
   | (with_reducible exact b_trim.mono _ _)
   | (with_reducible exact LeO.refl _)
   | (with_reducible exact LeO.none _)
   | (with_reducible refine LeO.ite ?_ ?_)
   | (with_reducible refine LeO.bind ?_ (fun _ => ?_))
   | exact ih0 _ _ _ _ _ _
   | exact b_trim.mono _ _
   | exact LeO.none _
   | refine LeO.ite ?_ ?_
   | refine LeO.bind ?_ (fun _ => ?_)
theorem b_plus.zHE : ∀ a0 a1 k,LeO (b_plus.fg k a0 a1) (b_plus.fg (k + 1) a0 a1) := by
 intro a0 a1 k;have ih0 := b_plus.mono_l k;unfold b_plus.fg
 repeat' first
   | (with_reducible exact ih0 _ _ _ _ _ _)
   | (with_reducible exact b_trim.mono _ _)
   | (with_reducible exact LeO.refl _)
   | (with_reducible exact LeO.none _)
   | (with_reducible refine LeO.ite ?_ ?_)
   | (with_reducible refine LeO.bind ?_ (fun _ => ?_))
   | exact ih0 _ _ _ _ _ _
   | exact b_trim.mono _ _
   | exact LeO.none _
   | refine LeO.ite ?_ ?_
   | refine LeO.bind ?_ (fun _ => ?_)
theorem b_plus.zHn (k : Nat) (A0 : Option Addr) (c0 : Nat) (l0 : List Int) (A1 : Option Addr) (c1 : Nat) (l1 : List Int) (r : List Int) (w : World) (hr0 : Kd.C (Kd.int .u32) w A0 l0.length l0) (hc0 : l0.length ≤ c0) (hr1 : Kd.C (Kd.int .u32) w A1 l1.length l1) (hc1 : l1.length ≤ c1) (hge : ¬ (l0.length : Int) < (l1.length : Int)) (h : b_plus.fg k l0 l1 = some r) :
  Calls Tryz.prog 73 #[.slice A0 l0.length c0,.slice A1 l1.length c1] w fun e w' => ∃ v0_ : Value,e = .returned (v0_) ∧ Kd.V (Kd.int .u32) 72 w' w.heap.size (fun k_ => (w.heap.size ≤ k_)) v0_ r ∧ Below w.heap.size w w' := by
 have cgeb : decide ((l0.length : Int) < (l1.length : Int)) = false := decide_eq_false hge;have HR0 := am hr0;have HC0 := am hc0;clear hr0 hc0;have HR1 := am hr1;have HC1 := am hc1;clear hr1 hc1;have HB := am (Below.refl w.heap.size w);have H := h;unfold b_plus.fg at H;clear h;obtain ⟨c3,H⟩ := iN H;have bZ := eq_true c3;have cB : decide (0 ≤ wrap64 ((l0.length : Int) + 1)) = true := decide_eq_true c3;obtain ⟨c4,H⟩ := iN H;have cK := eq_true c4;have cO : decide ((wrap64 ((l0.length : Int) + 1) : Int).toNat ≤ 70368744177664) = true := decide_eq_true c4;obtain ⟨bC,aN⟩ : ∃ y_ : List Int,y_ = (List.replicate 0 0) := ⟨_,rfl⟩;replace H : (b_plus.l0 k l1 bC 0 l0 (l0.length : Int) 0) = some r := pI aN H;have bA := am aN;clear aN;have H' := am H;clear H;go_enter Tryz.func73,Tryz.ntmps73;go_wp2_with (first | ((with_reducible refine zQq (N := 19) rfl ?_);refine zKN (Kd.int .u32) _ 72 rfl (N := 19) rfl 70 _ _ rfl 0 (wrap64 ((l0.length : Int) + 1)) rfl rfl Tryz.underlying70 (.int .u32 0) 4 zXO rfl (by decide) (by omega) 0 (ok := fun _ => True) (okp := fun _ => True) rfl (fun _ hk => hk) trivial (by omega) pD (Nat.le_trans (Nat.mul_le_mul_right _ (pD : (wrap64 ((l0.length : Int) + 1)).toNat ≤ 70368744177664)) (by omega)) (Below.refl _ _) (Nat.le_refl _) ?_;intro dC w5 ho6 hb hg_ hnew_;clear hg_ hnew_;(first | rw [← bA.out] at ho6 | (simp only [Int.reduceToNat] at ho6;rw [← bA.out] at ho6));have bI := am (Kd.zQr (Kd.zYq (M := fun k_ => (w.heap.size ≤ k_)) ho6 (zQa pB) (fun k_ h_ => h_)) (zQa pB));replace HB := bS hb;clear hb ho6))
 go_loopg [5,6,22] k (fun kq v5 v6 v22 w' => ∃ (aG : List Int) (aC : Int) (aA : Int),v6 = .int .u64 aC ∧ v22 = .int .i64 aA ∧ Aside0 (b_plus.l0 kq l1 aG aC l0 (l0.length : Int) aA = some r) ∧ Aside0 (kq ≤ k) ∧ Aside0 (Kd.R (Kd.int .u32) 72 w' w.heap.size (fun k_ => (w.heap.size ≤ k_)) v5 aG) ∧ Aside0 (Below w.heap.size w w'))
 case atStart => exact ⟨(bC),(0),(0),pS,pS,H',⟨Nat.le_refl _⟩,⟨by (with_reducible repeat (first | apply Kd.R_alloc | apply Kd.zQp | apply Kd.zQs));exact Kd.zQx bI.out (fun _ hk => hk.1)⟩,⟨pB⟩⟩
 case round =>
  clear H';(try clear c1);(try clear p2);(try clear c3);(try clear bZ);(try clear cB);(try clear c4);(try clear cK);(try clear cO);(try clear p6);obtain ⟨aG,aC,aA,rfl,rfl,HA,bB,aK,HB⟩ := hrel
  cases gk with
  | zero => exact absurd HA.out (by simp [b_plus.l0])
  | succ k1 =>
   have H := HA.out;clear HA;simp only [b_plus.l0] at H;rcases iT H with ⟨c7,H⟩ | ⟨c7,H⟩
   ·have cZ : decide (aA < (l0.length : Int)) = true := decide_eq_true c7;clear c7;obtain ⟨c8,H⟩ := iN H;have dD : decide (0 ≤ aA) = true := decide_eq_true c8;clear c8;obtain ⟨c9,H⟩ := iN H;have dE : decide (aA < (l0.length : Int)) = true := decide_eq_true c9;clear c9;rcases iT H with ⟨aW,H⟩ | ⟨aW,H⟩
    ·have bJ : decide (aA < (l1.length : Int)) = true := decide_eq_true aW;clear aW;obtain ⟨bW,H⟩ := iN H;have bK := am bW;clear bW;obtain ⟨bE,aQ⟩ : ∃ y_ : List Int,y_ = (aG ++ [(IntKind.u64.wrap ((IntKind.u64.wrap (aC + (IntKind.u64.wrap (rd l0 aA)))) + (IntKind.u64.wrap (rd l1 aA)))) % 4294967296]) := ⟨_,rfl⟩;replace H : (b_plus.l0 k1 l1 bE ((IntKind.u64.wrap ((IntKind.u64.wrap (aC + (IntKind.u64.wrap (rd l0 aA)))) + (IntKind.u64.wrap (rd l1 aA)))) / 4294967296) l0 (l0.length : Int) (wrap64 (aA + 1))) = some r := pI aQ H;have bL := am aQ;clear aQ;have H' := am H;clear H;have aH : 0 ≤ (aA : Int) := pD;have aI : aA < (l0.length : Int) := pD;obtain ⟨ad110,e110,aD⟩ := Kd.zXi HR0.out aA aH aI
     cases e110
     replace aD := (HB.out.cell (World.block_lt_of_cell? w _ aD)).trans aD;replace aH := eq_true aH;replace aI := eq_true aI;have aX : 0 ≤ (aA : Int) := pD;have aY : aA < (l1.length : Int) := pD;obtain ⟨ad111,e111,aM⟩ := Kd.zXi HR1.out aA aX aY
     cases e111
     replace aM := (HB.out.cell (World.block_lt_of_cell? w _ aM)).trans aM;replace aX := eq_true aX;replace aY := eq_true aY;go_wp2_with (first | ((with_reducible refine zQu (b := .append) (xs := #[.tmp 42,.tmp 45]) rfl ?_);at_builtin;refine Kd.zQS (Kd.int .u32) (w0 := w) w.heap.size rfl (.tmp 42) (.tmp 45) 70 72 (.int .u32 0) 4 rfl Tryz.underlying70 zXO rfl (by decide) (by omega) u5 aG ((IntKind.u64.wrap ((IntKind.u64.wrap (aC + (IntKind.u64.wrap (rd l0 aA)))) + (IntKind.u64.wrap (rd l1 aA)))) % 4294967296) [.int .u32 ((IntKind.u64.wrap ((IntKind.u64.wrap (aC + (IntKind.u64.wrap (rd l0 aA)))) + (IntKind.u64.wrap (rd l1 aA)))) % 4294967296)] (fun k_ => (w.heap.size ≤ k_)) (fun _ => False) rfl rfl ?aP (fun _ hk => hk.elim) ?aF ?aO ?aB ?aS ?aL ?_;(case aP => exact rfl);(case aB => exact pB);(case aF => exact (fun k_ hk => (Nat.le_trans (zQa pB) hk)));(case aO => exact (pR aK.out));(case aS => exact (zQa pB));(case aL => have := bK.out;omega);intro dF dJ ho hb hg hat;rw [← bL.out] at ho;replace HB := am (hb);have bM := am (ho);clear aK;clear ho hb hg hat))
     go_roundg k1
     case measure => have := bB.out;omega
     case rel => exact ⟨(bE),((IntKind.u64.wrap ((IntKind.u64.wrap (aC + (IntKind.u64.wrap (rd l0 aA)))) + (IntKind.u64.wrap (rd l1 aA)))) / 4294967296),(wrap64 (aA + 1)),pS,pS,H',⟨by have := bB.out;omega⟩,⟨by (with_reducible repeat (first | apply Kd.R_alloc | apply Kd.zQp | apply Kd.zQs));exact bM.out⟩,⟨pB⟩⟩
    ·have bJ : decide (aA < (l1.length : Int)) = false := decide_eq_false aW;clear aW;obtain ⟨bX,H⟩ := iN H;have bN := am bX;clear bX;obtain ⟨bF,aT⟩ : ∃ y_ : List Int,y_ = (aG ++ [(IntKind.u64.wrap (aC + (IntKind.u64.wrap (rd l0 aA)))) % 4294967296]) := ⟨_,rfl⟩;replace H : (b_plus.l0 k1 l1 bF ((IntKind.u64.wrap (aC + (IntKind.u64.wrap (rd l0 aA)))) / 4294967296) l0 (l0.length : Int) (wrap64 (aA + 1))) = some r := pI aT H;have bO := am aT;clear aT;have H' := am H;clear H;have aH : 0 ≤ (aA : Int) := pD;have aI : aA < (l0.length : Int) := pD;obtain ⟨ad110,e110,aD⟩ := Kd.zXi HR0.out aA aH aI
     cases e110
     replace aD := (HB.out.cell (World.block_lt_of_cell? w _ aD)).trans aD;replace aH := eq_true aH;replace aI := eq_true aI;go_wp2_with (first | ((with_reducible refine zQu (b := .append) (xs := #[.tmp 42,.tmp 45]) rfl ?_);at_builtin;refine Kd.zQS (Kd.int .u32) (w0 := w) w.heap.size rfl (.tmp 42) (.tmp 45) 70 72 (.int .u32 0) 4 rfl Tryz.underlying70 zXO rfl (by decide) (by omega) u5 aG ((IntKind.u64.wrap (aC + (IntKind.u64.wrap (rd l0 aA)))) % 4294967296) [.int .u32 ((IntKind.u64.wrap (aC + (IntKind.u64.wrap (rd l0 aA)))) % 4294967296)] (fun k_ => (w.heap.size ≤ k_)) (fun _ => False) rfl rfl ?aP (fun _ hk => hk.elim) ?aF ?aO ?aB ?aS ?aL ?_;(case aP => exact rfl);(case aB => exact pB);(case aF => exact (fun k_ hk => (Nat.le_trans (zQa pB) hk)));(case aO => exact (pR aK.out));(case aS => exact (zQa pB));(case aL => have := bN.out;omega);intro dG dK ho hb hg hat;rw [← bO.out] at ho;replace HB := am (hb);have bP := am (ho);clear aK;clear ho hb hg hat))
     go_roundg k1
     case measure => have := bB.out;omega
     case rel => exact ⟨(bF),((IntKind.u64.wrap (aC + (IntKind.u64.wrap (rd l0 aA)))) / 4294967296),(wrap64 (aA + 1)),pS,pS,H',⟨by have := bB.out;omega⟩,⟨by (with_reducible repeat (first | apply Kd.R_alloc | apply Kd.zQp | apply Kd.zQs));exact bP.out⟩,⟨pB⟩⟩
   ·have cZ : decide (aA < (l0.length : Int)) = false := decide_eq_false c7;clear c7;obtain ⟨bY,H⟩ := iN H;have bQ := am bY;clear bY;obtain ⟨aU,aV⟩ : ∃ y_ : List Int,y_ = (aG ++ [(aC) % 4294967296]) := ⟨_,rfl⟩;replace H : ((b_trim.f k1 aU).bind fun aZ => (some aZ)) = some r := pI aV H;have bT := am aV;clear aV;obtain ⟨aZ,dB,H⟩ := oB H;(try dsimp only at H);obtain rfl := Option.some.inj H;go_wp2_with (first | ((with_reducible refine zQu (b := .append) (xs := #[.tmp 50,.tmp 53]) rfl ?_);at_builtin;refine Kd.zQS (Kd.int .u32) (w0 := w) w.heap.size rfl (.tmp 50) (.tmp 53) 70 72 (.int .u32 0) 4 rfl Tryz.underlying70 zXO rfl (by decide) (by omega) u5 aG ((aC) % 4294967296) [.int .u32 ((aC) % 4294967296)] (fun k_ => (w.heap.size ≤ k_)) (fun _ => False) rfl rfl ?aP (fun _ hk => hk.elim) ?aF ?aO ?aB ?aS ?aL ?_;(case aP => exact rfl);(case aB => exact pB);(case aF => exact (fun k_ hk => (Nat.le_trans (zQa pB) hk)));(case aO => exact (pR aK.out));(case aS => exact (zQa pB));(case aL => have := bQ.out;omega);intro dH dL ho hb hg hat;rw [← bT.out] at ho;replace HB := am (hb);have aJ := am (ho);clear aK;clear ho hb hg hat;obtain ⟨bG,bH,dA⟩ := Kd.zQv aJ.out;subst dA) | ((with_reducible refine zQb (f := 85) rfl ?_);refine zQh (some 55) rfl rfl Tryz.func85 (by kernel_rfl) rfl #[.slice bG aU.length bH] rfl pM ?_;(with_reducible refine (b_trim.calls k1 (fun k_ => some k_ = (.slice bG aU.length bH : Value).ownBlock) _ _ aU aZ _ ?side1 dB.out).mono ?_);(case side1 => exact Kd.R_V (Kd.zXQ rfl (aJ.out)));rintro e dM ⟨dI,rfl,ho0,hb⟩;refine ⟨_,rfl,?_⟩;have bV := am (Kd.zQM (Kd.zQi (ok' := fun k_ => (w.heap.size ≤ k_)) ho0 (fun k_ hk_ => Or.elim hk_ (fun hs_ => ((aJ.out).1 k_ hs_.symm)) (fun hn_ => (Nat.le_trans (zQa pB) hn_)))) (zQa pB));replace aJ := am (Kd.zQD (pR aJ.out) hb);replace HB := bS hb;(try clear hb);(try clear ho0)))
    go_ret
    exact ⟨_,pE,by (with_reducible repeat (first | apply Kd.V_alloc | apply Kd.zQk | apply Kd.zQm));exact bV.out,pB⟩
theorem b_plus.zHm (k : Nat) (A0 : Option Addr) (c0 : Nat) (l0 : List Int) (A1 : Option Addr) (c1 : Nat) (l1 : List Int) (r : List Int) (w : World) (hr0 : Kd.C (Kd.int .u32) w A0 l0.length l0) (hc0 : l0.length ≤ c0) (hr1 : Kd.C (Kd.int .u32) w A1 l1.length l1) (hc1 : l1.length ≤ c1) (hge : (l1.length : Int) < (l0.length : Int)) (h : b_plus.fg k l0 l1 = some r) :
  Calls Tryz.prog 73 #[.slice A1 l1.length c1,.slice A0 l0.length c0] w fun e w' => ∃ v0_ : Value,e = .returned (v0_) ∧ Kd.V (Kd.int .u32) 72 w' w.heap.size (fun k_ => (w.heap.size ≤ k_)) v0_ r ∧ Below w.heap.size w w' := by
 have cgeb : decide ((l1.length : Int) < (l0.length : Int)) = true := decide_eq_true hge;have HR0 := am hr0;have HC0 := am hc0;clear hr0 hc0;have HR1 := am hr1;have HC1 := am hc1;clear hr1 hc1;have HB := am (Below.refl w.heap.size w);have H := h;unfold b_plus.fg at H;clear h;obtain ⟨c3,H⟩ := iN H;have bZ := eq_true c3;have cB : decide (0 ≤ wrap64 ((l0.length : Int) + 1)) = true := decide_eq_true c3;obtain ⟨c4,H⟩ := iN H;have cK := eq_true c4;have cO : decide ((wrap64 ((l0.length : Int) + 1) : Int).toNat ≤ 70368744177664) = true := decide_eq_true c4;obtain ⟨bC,aN⟩ : ∃ y_ : List Int,y_ = (List.replicate 0 0) := ⟨_,rfl⟩;replace H : (b_plus.l0 k l1 bC 0 l0 (l0.length : Int) 0) = some r := pI aN H;have bA := am aN;clear aN;have H' := am H;clear H;go_enter Tryz.func73,Tryz.ntmps73;go_wp2_with (first | ((with_reducible refine zQq (N := 19) rfl ?_);refine zKN (Kd.int .u32) _ 72 rfl (N := 19) rfl 70 _ _ rfl 0 (wrap64 ((l0.length : Int) + 1)) rfl rfl Tryz.underlying70 (.int .u32 0) 4 zXO rfl (by decide) (by omega) 0 (ok := fun _ => True) (okp := fun _ => True) rfl (fun _ hk => hk) trivial (by omega) pD (Nat.le_trans (Nat.mul_le_mul_right _ (pD : (wrap64 ((l0.length : Int) + 1)).toNat ≤ 70368744177664)) (by omega)) (Below.refl _ _) (Nat.le_refl _) ?_;intro dC w5 ho6 hb hg_ hnew_;clear hg_ hnew_;(first | rw [← bA.out] at ho6 | (simp only [Int.reduceToNat] at ho6;rw [← bA.out] at ho6));have bI := am (Kd.zQr (Kd.zYq (M := fun k_ => (w.heap.size ≤ k_)) ho6 (zQa pB) (fun k_ h_ => h_)) (zQa pB));replace HB := bS hb;clear hb ho6))
 go_loopg [5,6,22] k (fun kq v5 v6 v22 w' => ∃ (aG : List Int) (aC : Int) (aA : Int),v6 = .int .u64 aC ∧ v22 = .int .i64 aA ∧ Aside0 (b_plus.l0 kq l1 aG aC l0 (l0.length : Int) aA = some r) ∧ Aside0 (kq ≤ k) ∧ Aside0 (Kd.R (Kd.int .u32) 72 w' w.heap.size (fun k_ => (w.heap.size ≤ k_)) v5 aG) ∧ Aside0 (Below w.heap.size w w'))
 case atStart => exact ⟨(bC),(0),(0),pS,pS,H',⟨Nat.le_refl _⟩,⟨by (with_reducible repeat (first | apply Kd.R_alloc | apply Kd.zQp | apply Kd.zQs));exact Kd.zQx bI.out (fun _ hk => hk.1)⟩,⟨pB⟩⟩
 case round =>
  clear H';(try clear c1);(try clear p2);(try clear c3);(try clear bZ);(try clear cB);(try clear c4);(try clear cK);(try clear cO);(try clear p6);obtain ⟨aG,aC,aA,rfl,rfl,HA,bB,aK,HB⟩ := hrel
  cases gk with
  | zero => exact absurd HA.out (by simp [b_plus.l0])
  | succ k1 =>
   have H := HA.out;clear HA;simp only [b_plus.l0] at H;rcases iT H with ⟨c7,H⟩ | ⟨c7,H⟩
   ·have cZ : decide (aA < (l0.length : Int)) = true := decide_eq_true c7;clear c7;obtain ⟨c8,H⟩ := iN H;have dD : decide (0 ≤ aA) = true := decide_eq_true c8;clear c8;obtain ⟨c9,H⟩ := iN H;have dE : decide (aA < (l0.length : Int)) = true := decide_eq_true c9;clear c9;rcases iT H with ⟨aW,H⟩ | ⟨aW,H⟩
    ·have bJ : decide (aA < (l1.length : Int)) = true := decide_eq_true aW;clear aW;obtain ⟨bW,H⟩ := iN H;have bK := am bW;clear bW;obtain ⟨bE,aQ⟩ : ∃ y_ : List Int,y_ = (aG ++ [(IntKind.u64.wrap ((IntKind.u64.wrap (aC + (IntKind.u64.wrap (rd l0 aA)))) + (IntKind.u64.wrap (rd l1 aA)))) % 4294967296]) := ⟨_,rfl⟩;replace H : (b_plus.l0 k1 l1 bE ((IntKind.u64.wrap ((IntKind.u64.wrap (aC + (IntKind.u64.wrap (rd l0 aA)))) + (IntKind.u64.wrap (rd l1 aA)))) / 4294967296) l0 (l0.length : Int) (wrap64 (aA + 1))) = some r := pI aQ H;have bL := am aQ;clear aQ;have H' := am H;clear H;have aH : 0 ≤ (aA : Int) := pD;have aI : aA < (l0.length : Int) := pD;obtain ⟨ad110,e110,aD⟩ := Kd.zXi HR0.out aA aH aI
     cases e110
     replace aD := (HB.out.cell (World.block_lt_of_cell? w _ aD)).trans aD;replace aH := eq_true aH;replace aI := eq_true aI;have aX : 0 ≤ (aA : Int) := pD;have aY : aA < (l1.length : Int) := pD;obtain ⟨ad111,e111,aM⟩ := Kd.zXi HR1.out aA aX aY
     cases e111
     replace aM := (HB.out.cell (World.block_lt_of_cell? w _ aM)).trans aM;replace aX := eq_true aX;replace aY := eq_true aY;go_wp2_with (first | ((with_reducible refine zQu (b := .append) (xs := #[.tmp 42,.tmp 45]) rfl ?_);at_builtin;refine Kd.zQS (Kd.int .u32) (w0 := w) w.heap.size rfl (.tmp 42) (.tmp 45) 70 72 (.int .u32 0) 4 rfl Tryz.underlying70 zXO rfl (by decide) (by omega) u5 aG ((IntKind.u64.wrap ((IntKind.u64.wrap (aC + (IntKind.u64.wrap (rd l0 aA)))) + (IntKind.u64.wrap (rd l1 aA)))) % 4294967296) [.int .u32 ((IntKind.u64.wrap ((IntKind.u64.wrap (aC + (IntKind.u64.wrap (rd l0 aA)))) + (IntKind.u64.wrap (rd l1 aA)))) % 4294967296)] (fun k_ => (w.heap.size ≤ k_)) (fun _ => False) rfl rfl ?aP (fun _ hk => hk.elim) ?aF ?aO ?aB ?aS ?aL ?_;(case aP => exact rfl);(case aB => exact pB);(case aF => exact (fun k_ hk => (Nat.le_trans (zQa pB) hk)));(case aO => exact (pR aK.out));(case aS => exact (zQa pB));(case aL => have := bK.out;omega);intro dF dJ ho hb hg hat;rw [← bL.out] at ho;replace HB := am (hb);have bM := am (ho);clear aK;clear ho hb hg hat))
     go_roundg k1
     case measure => have := bB.out;omega
     case rel => exact ⟨(bE),((IntKind.u64.wrap ((IntKind.u64.wrap (aC + (IntKind.u64.wrap (rd l0 aA)))) + (IntKind.u64.wrap (rd l1 aA)))) / 4294967296),(wrap64 (aA + 1)),pS,pS,H',⟨by have := bB.out;omega⟩,⟨by (with_reducible repeat (first | apply Kd.R_alloc | apply Kd.zQp | apply Kd.zQs));exact bM.out⟩,⟨pB⟩⟩
    ·have bJ : decide (aA < (l1.length : Int)) = false := decide_eq_false aW;clear aW;obtain ⟨bX,H⟩ := iN H;have bN := am bX;clear bX;obtain ⟨bF,aT⟩ : ∃ y_ : List Int,y_ = (aG ++ [(IntKind.u64.wrap (aC + (IntKind.u64.wrap (rd l0 aA)))) % 4294967296]) := ⟨_,rfl⟩;replace H : (b_plus.l0 k1 l1 bF ((IntKind.u64.wrap (aC + (IntKind.u64.wrap (rd l0 aA)))) / 4294967296) l0 (l0.length : Int) (wrap64 (aA + 1))) = some r := pI aT H;have bO := am aT;clear aT;have H' := am H;clear H;have aH : 0 ≤ (aA : Int) := pD;have aI : aA < (l0.length : Int) := pD;obtain ⟨ad110,e110,aD⟩ := Kd.zXi HR0.out aA aH aI
     cases e110
     replace aD := (HB.out.cell (World.block_lt_of_cell? w _ aD)).trans aD;replace aH := eq_true aH;replace aI := eq_true aI;go_wp2_with (first | ((with_reducible refine zQu (b := .append) (xs := #[.tmp 42,.tmp 45]) rfl ?_);at_builtin;refine Kd.zQS (Kd.int .u32) (w0 := w) w.heap.size rfl (.tmp 42) (.tmp 45) 70 72 (.int .u32 0) 4 rfl Tryz.underlying70 zXO rfl (by decide) (by omega) u5 aG ((IntKind.u64.wrap (aC + (IntKind.u64.wrap (rd l0 aA)))) % 4294967296) [.int .u32 ((IntKind.u64.wrap (aC + (IntKind.u64.wrap (rd l0 aA)))) % 4294967296)] (fun k_ => (w.heap.size ≤ k_)) (fun _ => False) rfl rfl ?aP (fun _ hk => hk.elim) ?aF ?aO ?aB ?aS ?aL ?_;(case aP => exact rfl);(case aB => exact pB);(case aF => exact (fun k_ hk => (Nat.le_trans (zQa pB) hk)));(case aO => exact (pR aK.out));(case aS => exact (zQa pB));(case aL => have := bN.out;omega);intro dG dK ho hb hg hat;rw [← bO.out] at ho;replace HB := am (hb);have bP := am (ho);clear aK;clear ho hb hg hat))
     go_roundg k1
     case measure => have := bB.out;omega
     case rel => exact ⟨(bF),((IntKind.u64.wrap (aC + (IntKind.u64.wrap (rd l0 aA)))) / 4294967296),(wrap64 (aA + 1)),pS,pS,H',⟨by have := bB.out;omega⟩,⟨by (with_reducible repeat (first | apply Kd.R_alloc | apply Kd.zQp | apply Kd.zQs));exact bP.out⟩,⟨pB⟩⟩
   ·have cZ : decide (aA < (l0.length : Int)) = false := decide_eq_false c7;clear c7;obtain ⟨bY,H⟩ := iN H;have bQ := am bY;clear bY;obtain ⟨aU,aV⟩ : ∃ y_ : List Int,y_ = (aG ++ [(aC) % 4294967296]) := ⟨_,rfl⟩;replace H : ((b_trim.f k1 aU).bind fun aZ => (some aZ)) = some r := pI aV H;have bT := am aV;clear aV;obtain ⟨aZ,dB,H⟩ := oB H;(try dsimp only at H);obtain rfl := Option.some.inj H;go_wp2_with (first | ((with_reducible refine zQu (b := .append) (xs := #[.tmp 50,.tmp 53]) rfl ?_);at_builtin;refine Kd.zQS (Kd.int .u32) (w0 := w) w.heap.size rfl (.tmp 50) (.tmp 53) 70 72 (.int .u32 0) 4 rfl Tryz.underlying70 zXO rfl (by decide) (by omega) u5 aG ((aC) % 4294967296) [.int .u32 ((aC) % 4294967296)] (fun k_ => (w.heap.size ≤ k_)) (fun _ => False) rfl rfl ?aP (fun _ hk => hk.elim) ?aF ?aO ?aB ?aS ?aL ?_;(case aP => exact rfl);(case aB => exact pB);(case aF => exact (fun k_ hk => (Nat.le_trans (zQa pB) hk)));(case aO => exact (pR aK.out));(case aS => exact (zQa pB));(case aL => have := bQ.out;omega);intro dH dL ho hb hg hat;rw [← bT.out] at ho;replace HB := am (hb);have aJ := am (ho);clear aK;clear ho hb hg hat;obtain ⟨bG,bH,dA⟩ := Kd.zQv aJ.out;subst dA) | ((with_reducible refine zQb (f := 85) rfl ?_);refine zQh (some 55) rfl rfl Tryz.func85 (by kernel_rfl) rfl #[.slice bG aU.length bH] rfl pM ?_;(with_reducible refine (b_trim.calls k1 (fun k_ => some k_ = (.slice bG aU.length bH : Value).ownBlock) _ _ aU aZ _ ?side1 dB.out).mono ?_);(case side1 => exact Kd.R_V (Kd.zXQ rfl (aJ.out)));rintro e dM ⟨dI,rfl,ho0,hb⟩;refine ⟨_,rfl,?_⟩;have bV := am (Kd.zQM (Kd.zQi (ok' := fun k_ => (w.heap.size ≤ k_)) ho0 (fun k_ hk_ => Or.elim hk_ (fun hs_ => ((aJ.out).1 k_ hs_.symm)) (fun hn_ => (Nat.le_trans (zQa pB) hn_)))) (zQa pB));replace aJ := am (Kd.zQD (pR aJ.out) hb);replace HB := bS hb;(try clear hb);(try clear ho0)))
    go_ret
    exact ⟨_,pE,by (with_reducible repeat (first | apply Kd.V_alloc | apply Kd.zQk | apply Kd.zQm));exact bV.out,pB⟩
def b_plus.f (k : Nat) (l0 : List Int) (l1 : List Int) : Option (List Int) := if (l0.length : Int) < (l1.length : Int) then b_plus.fg k l1 l0 else b_plus.fg k l0 l1
theorem b_plus.mono : ∀ a0 a1 k,LeO (b_plus.f k a0 a1) (b_plus.f (k + 1) a0 a1) := by
 intro a0 a1 k;unfold b_plus.f;by_cases h : (a0.length : Int) < (a1.length : Int)
 ·rw [if_pos h,if_pos h];exact b_plus.zHE _ _ _
 ·rw [if_neg h,if_neg h];exact b_plus.zHE _ _ _
theorem b_plus.calls (k : Nat) (A0 : Option Addr) (c0 : Nat) (l0 : List Int) (A1 : Option Addr) (c1 : Nat) (l1 : List Int) (r : List Int) (w : World) (hr0 : Kd.C (Kd.int .u32) w A0 l0.length l0) (hc0 : l0.length ≤ c0) (hr1 : Kd.C (Kd.int .u32) w A1 l1.length l1) (hc1 : l1.length ≤ c1) (h : b_plus.f k l0 l1 = some r) :
  Calls Tryz.prog 73 #[.slice A0 l0.length c0,.slice A1 l1.length c1] w fun e w' => ∃ v0_ : Value,e = .returned (v0_) ∧ Kd.V (Kd.int .u32) 72 w' w.heap.size (fun k_ => (w.heap.size ≤ k_)) v0_ r ∧ Below w.heap.size w w' := by
 unfold b_plus.f at h;by_cases hc : (l0.length : Int) < (l1.length : Int)
 ·rw [if_pos hc] at h;exact b_plus.zHm k A1 c1 l1 A0 c0 l0 r w hr1 hc1 hr0 hc0 hc h
 ·rw [if_neg hc] at h;exact b_plus.zHn k A0 c0 l0 A1 c1 l1 r w hr0 hc0 hr1 hc1 hc h
def stringslite_HasPrefix.f (a0 : ByteArray) (a1 : ByteArray) : Option (Bool) := if (a0.size : Int) ≥ (a1.size : Int) then (if 0 ≤ (a1.size : Int) then (if (a1.size : Int) ≤ (a0.size : Int) then (some ((a0.extract 0 ((a1.size : Int) : Int).toNat).toList == a1.toList)) else (none)) else (none)) else (some false)
theorem stringslite_HasPrefix.calls (a0 : ByteArray) (a1 : ByteArray) (r : Bool) (w : World) (h : stringslite_HasPrefix.f a0 a1 = some r) :
  Calls Tryz.prog 51 #[.string a0,.string a1] w fun e w' => e = .returned (.bool r) ∧ Drawn0 w w' := by
 have H := h;unfold stringslite_HasPrefix.f at H;clear h;rcases iT H with ⟨c3,H⟩ | ⟨c3,H⟩
 ·have aC : decide ((a1.size : Int) ≤ (a0.size : Int)) = true := decide_eq_true c3;have aD : decide (a1.size ≤ a0.size) = true := decide_eq_true (Int.ofNat_le.mp c3);clear c3;obtain ⟨c4,H⟩ := iN H;have aH := eq_true c4;have aI : decide (0 ≤ (a1.size : Int)) = true := decide_eq_true c4;clear c4;obtain ⟨c5,H⟩ := iN H;have aJ := eq_true c5;have aK : decide ((a1.size : Int) ≤ (a0.size : Int)) = true := decide_eq_true c5;clear c5;obtain ⟨aG,aA⟩ : ∃ j_ : ByteArray,(a0.extract 0 ((a1.size : Int) : Int).toNat) = j_ := ⟨_,rfl⟩;(replace H : (some ((aG).toList == a1.toList)) = some r := by first | (rw [aA] at H;exact H) | (simp only [aA] at H ⊢;exact H) | exact H);obtain rfl := Option.some.inj H;go_enter Tryz.func51,Tryz.ntmps51;go_wp2
  go_ret
  exact ⟨by first | rfl | (simp;done) | (simp only [← aA] <;> (first | rfl | simp)) | (simp [*];done),pQ0⟩
 ·have aC : decide ((a1.size : Int) ≤ (a0.size : Int)) = false := decide_eq_false c3;have aD : decide (a1.size ≤ a0.size) = false := decide_eq_false (fun h => c3 (Int.ofNat_le.mpr h));clear c3;obtain rfl := Option.some.inj H;go_enter Tryz.func51,Tryz.ntmps51;go_wp2
  go_ret
  exact ⟨pS,pQ0⟩
def stringslite_CutPrefix.f (a0 : ByteArray) (a1 : ByteArray) : Option (ByteArray × Bool) := (stringslite_HasPrefix.f a0 a1).bind fun t124 => (if t124 = true then (if 0 ≤ (a1.size : Int) then (if (a1.size : Int) ≤ (a0.size : Int) then (some (a0.extract ((a1.size : Int) : Int).toNat a0.size,true)) else (none)) else (none)) else (some (a0,false)))
theorem stringslite_CutPrefix.calls (a0 : ByteArray) (a1 : ByteArray) (r1 : ByteArray) (r2 : Bool) (w : World) (h : stringslite_CutPrefix.f a0 a1 = some (r1,r2)) :
  Calls Tryz.prog 37 #[.string a0,.string a1] w fun e w' => e = .returned (.tuple #[.string r1,.bool r2]) ∧ Drawn0 w w' := by
 have H := h;unfold stringslite_CutPrefix.f at H;clear h;obtain ⟨aC,A3,H⟩ := oB H;(try dsimp only at H);by_cases c4 : aC = true
 ·subst c4;rw [if_pos rfl] at H;obtain ⟨c5,H⟩ := iN H;have aG := eq_true c5;have aH : decide (0 ≤ (a1.size : Int)) = true := decide_eq_true c5;clear c5;obtain ⟨c6,H⟩ := iN H;have aI := eq_true c6;have aJ : decide ((a1.size : Int) ≤ (a0.size : Int)) = true := decide_eq_true c6;clear c6;obtain ⟨aD,aA⟩ : ∃ j_ : ByteArray,(a0.extract ((a1.size : Int) : Int).toNat a0.size) = j_ := ⟨_,rfl⟩;(replace H : (some (aD,true)) = some (r1,r2) := by first | (rw [aA] at H;exact H) | (simp only [aA] at H ⊢;exact H) | exact H);(try rw [aA] at A3);simp only [Option.some.injEq,Prod.mk.injEq] at H;obtain ⟨rfl,rfl⟩ := H;go_enter Tryz.func37,Tryz.ntmps37;(go_wp2_with (first | ((with_reducible refine zQb (f := 51) rfl ?_);refine zQh (some 8) rfl rfl Tryz.func51 (by kernel_rfl) rfl #[.string a0,.string a1] rfl pM ?_;(with_reducible refine (stringslite_HasPrefix.calls a0 a1 true _ A3.out).mono ?_);rintro e w' ⟨rfl,⟨nd,rfl⟩⟩;refine ⟨_,rfl,?_⟩)));go_ret2;exact ⟨by first | rfl | (simp;done) | (simp only [← aA] <;> (first | rfl | simp)) | (simp [*];done),pQ0⟩
 ·replace c4 := Bool.eq_false_iff.mpr c4;subst c4;rw [if_neg (show ¬ (false = true) by decide)] at H;simp only [Option.some.injEq,Prod.mk.injEq] at H;obtain ⟨rfl,rfl⟩ := H;go_enter Tryz.func37,Tryz.ntmps37;(go_wp2_with (first | ((with_reducible refine zQb (f := 51) rfl ?_);refine zQh (some 8) rfl rfl Tryz.func51 (by kernel_rfl) rfl #[.string a0,.string a1] rfl pM ?_;(with_reducible refine (stringslite_HasPrefix.calls a0 a1 false _ A3.out).mono ?_);rintro e w' ⟨rfl,⟨nd,rfl⟩⟩;refine ⟨_,rfl,?_⟩)));go_ret2;exact ⟨pS,pQ0⟩
def strings_CutPrefix.f (a0 : ByteArray) (a1 : ByteArray) : Option (ByteArray × Bool) := (stringslite_CutPrefix.f a0 a1).bind fun bt125 => (some (bt125.1,bt125.2))
theorem strings_CutPrefix.calls (a0 : ByteArray) (a1 : ByteArray) (r1 : ByteArray) (r2 : Bool) (w : World) (h : strings_CutPrefix.f a0 a1 = some (r1,r2)) :
  Calls Tryz.prog 26 #[.string a0,.string a1] w fun e w' => e = .returned (.tuple #[.string r1,.bool r2]) ∧ Drawn0 w w' := by
 have H : ((stringslite_CutPrefix.f a0 a1).bind fun bt125 => (some (bt125.1,bt125.2))) = some (r1,r2) := h;clear h;obtain ⟨⟨aA,aC⟩,A3,H⟩ := oB H;(try dsimp only at H);simp only [Option.some.injEq,Prod.mk.injEq] at H;obtain ⟨rfl,rfl⟩ := H;go_enter Tryz.func26,Tryz.ntmps26;(go_wp2_with (first | ((with_reducible refine zQb (f := 37) rfl ?_);refine zQh (some 8) rfl rfl Tryz.func37 (by kernel_rfl) rfl #[.string a0,.string a1] rfl pM ?_;(with_reducible refine (stringslite_CutPrefix.calls a0 a1 aA aC _ A3.out).mono ?_);rintro e w' ⟨rfl,⟨nd,rfl⟩⟩;refine ⟨_,rfl,?_⟩)));go_ret2;exact ⟨pS,pQ0⟩
def dec_digits.l0 : Nat → ByteArray → Int → Int → Option (Int)
 | 0,_,_,_ => none
 | k + 1,x0,x5,x6 => if x6 < x5 then (if 0 ≤ x6 then (if x6 < (x0.size : Int) then (if (bt x0 x6) < 48 then (some x6) else (if (bt x0 x6) > 57 then (some x6) else (dec_digits.l0 k x0 x5 (wrap64 (x6 + 1))))) else (none)) else (none)) else (some (x0.size : Int))
def dec_digits.f (k : Nat) (a0 : ByteArray) : Option (Int) := dec_digits.l0 k a0 (a0.size : Int) 0
theorem dec_digits.mono_l : ∀ k,(∀ y0 y1 y2,LeO (dec_digits.l0 k y0 y1 y2) (dec_digits.l0 (k + 1) y0 y1 y2))
 | 0 => fun _ _ _ r h => by simp [dec_digits.l0] at h
 | k + 1 => by
  have ih0 := dec_digits.mono_l k
  ·intro y0 y1 y2;unfold dec_digits.l0;repeat' first
   | (with_reducible exact ih0 _ _ _)
   | (with_reducible exact LeO.refl _)
   | (with_reducible exact LeO.none _)
   | (with_reducible refine LeO.ite ?_ ?_)
   | (with_reducible refine LeO.bind ?_ (fun _ => ?_))
   | exact ih0 _ _ _
   | exact LeO.none _
   | refine LeO.ite ?_ ?_
   | refine LeO.bind ?_ (fun _ => ?_)
theorem dec_digits.mono : ∀ a0 k,LeO (dec_digits.f k a0) (dec_digits.f (k + 1) a0) := by
 intro a0 k;have ih0 := dec_digits.mono_l k;unfold dec_digits.f
 repeat' first
   | (with_reducible exact ih0 _ _ _)
   | (with_reducible exact LeO.refl _)
   | (with_reducible exact LeO.none _)
   | (with_reducible refine LeO.ite ?_ ?_)
   | (with_reducible refine LeO.bind ?_ (fun _ => ?_))
   | exact ih0 _ _ _
   | exact LeO.none _
   | refine LeO.ite ?_ ?_
   | refine LeO.bind ?_ (fun _ => ?_)
theorem dec_digits.calls (k : Nat) (a0 : ByteArray) (r : Int) (w : World) (h : dec_digits.f k a0 = some r) :
  Calls Tryz.prog 52 #[.string a0] w fun e w' => e = .returned (.int .i64 r) ∧ Drawn0 w w' := by
 have H : (dec_digits.l0 k a0 (a0.size : Int) 0) = some r := h;clear h;have H' := am H;clear H;go_enter Tryz.func52,Tryz.ntmps52;go_wp2
 go_loopg [6] k (fun kq v6 w' => ∃ (aA : Int),v6 = .int .i64 aA ∧ Aside0 (dec_digits.l0 kq a0 (a0.size : Int) aA = some r) ∧ Aside0 (kq ≤ k) ∧ Drawn0 w w')
 case atStart => exact ⟨(0),pS,H',⟨Nat.le_refl _⟩,pQ0⟩
 case round =>
  clear H';obtain ⟨aA,rfl,HA,aC,⟨m1,rfl⟩⟩ := hrel
  cases gk with
  | zero => exact absurd HA.out (by simp [dec_digits.l0])
  | succ k1 =>
   have H := HA.out;clear HA;simp only [dec_digits.l0] at H;rcases iT H with ⟨c2,H⟩ | ⟨c2,H⟩
   ·have aG : decide (aA < (a0.size : Int)) = true := decide_eq_true c2;clear c2;obtain ⟨c3,H⟩ := iN H;have aK : decide (0 ≤ aA) = true := decide_eq_true c3;clear c3;obtain ⟨c4,H⟩ := iN H;have aM : decide (aA < (a0.size : Int)) = true := decide_eq_true c4;clear c4;rcases iT H with ⟨c6,H⟩ | ⟨c6,H⟩
    ·have aH : decide ((bt a0 aA) < 48) = true := decide_eq_true c6;clear c6;obtain rfl := Option.some.inj H;have p5 : 0 ≤ (aA : Int) := pD;have q5 : aA < (a0.size : Int) := pD;have aD := bt_at a0 aA;replace p5 := eq_true p5;replace q5 := eq_true q5;go_wp2
     go_ret
     exact ⟨pS,pQ0⟩
    ·have aH : decide ((bt a0 aA) < 48) = false := decide_eq_false c6;clear c6;rcases iT H with ⟨c8,H⟩ | ⟨c8,H⟩
     ·have aI : decide (57 < (bt a0 aA)) = true := decide_eq_true c8;clear c8;obtain rfl := Option.some.inj H;have p5 : 0 ≤ (aA : Int) := pD;have q5 : aA < (a0.size : Int) := pD;have aD := bt_at a0 aA;replace p5 := eq_true p5;replace q5 := eq_true q5;have p7 : 0 ≤ (aA : Int) := pD;have q7 : aA < (a0.size : Int) := pD;have aJ := bt_at a0 aA;replace p7 := eq_true p7;replace q7 := eq_true q7;go_wp2
      go_ret
      exact ⟨pS,pQ0⟩
     ·have aI : decide (57 < (bt a0 aA)) = false := decide_eq_false c8;clear c8;have H' := am H;clear H;have p5 : 0 ≤ (aA : Int) := pD;have q5 : aA < (a0.size : Int) := pD;have aD := bt_at a0 aA;replace p5 := eq_true p5;replace q5 := eq_true q5;have p7 : 0 ≤ (aA : Int) := pD;have q7 : aA < (a0.size : Int) := pD;have aJ := bt_at a0 aA;replace p7 := eq_true p7;replace q7 := eq_true q7;go_wp2
      go_roundg k1
      case measure => have := aC.out;omega
      case rel => exact ⟨(wrap64 (aA + 1)),pS,H',⟨by have := aC.out;omega⟩,pQ0⟩
   ·have aG : decide (aA < (a0.size : Int)) = false := decide_eq_false c2;clear c2;obtain rfl := Option.some.inj H;go_wp2
    go_ret
    exact ⟨pS,pQ0⟩
def strings_HasPrefix.f (a0 : ByteArray) (a1 : ByteArray) : Option (Bool) := (stringslite_HasPrefix.f a0 a1).bind fun t127 => (some t127)
theorem strings_HasPrefix.calls (a0 : ByteArray) (a1 : ByteArray) (r : Bool) (w : World) (h : strings_HasPrefix.f a0 a1 = some r) :
  Calls Tryz.prog 53 #[.string a0,.string a1] w fun e w' => e = .returned (.bool r) ∧ Drawn0 w w' := by
 have H : ((stringslite_HasPrefix.f a0 a1).bind fun aA => (some aA)) = some r := h;clear h;obtain ⟨aA,A3,H⟩ := oB H;(try dsimp only at H);obtain rfl := Option.some.inj H;go_enter Tryz.func53,Tryz.ntmps53;go_wp2_with (first | ((with_reducible refine zQb (f := 51) rfl ?_);refine zQh (some 7) rfl rfl Tryz.func51 (by kernel_rfl) rfl #[.string a0,.string a1] rfl pM ?_;(with_reducible refine (stringslite_HasPrefix.calls a0 a1 aA _ A3.out).mono ?_);rintro e w' ⟨rfl,⟨nd,rfl⟩⟩;refine ⟨_,rfl,?_⟩))
 go_ret
 exact ⟨pS,pQ0⟩
end Go.Proofs.YtongfmeediokmaaGreatDoor.Pr
end
section
namespace Go.Proofs.YtongfmeediokmaaGreatDoor.Pr
open Go.RowKit Go.Proofs.YtongfmeediokmaaGreatDoorW.PrintWords Go.Proofs.YtongfmeediokmaaGreatDoorW.PrintLast Go.Proofs.YtongfmeediokmaaGreatDoorW.PrintMore Go.Proofs.YtongfmeediokmaaGreatDoor.Pv
attribute [local go_sem] zXc zXa zXm zXl zQO zQN zXb zQZ
mutual
def dec_cut.j0 : Nat → ByteArray → ByteArray → Int → Option (ByteArray × Int × Bool)
 | 0,_,_,_ => none
 | k + 1,x6,x131000,x131001 => if x6.toList = ([] : List UInt8) then (some (x131000,x131001,true)) else (if 0 < (x6.size : Int) then (if (bt x6 0) = 101 then (dec_cut.j1 k x6 false x131000 x131001) else (dec_cut.j1 k x6 ((bt x6 0) != 69) x131000 x131001)) else (none))
def dec_cut.j1 : Nat → ByteArray → Bool → ByteArray → Int → Option (ByteArray × Int × Bool)
 | 0,_,_,_,_ => none
 | k + 1,x6,x56,x131000,x131001 => if x56 = true then (some (x131000,x131001,false)) else (if 1 ≤ (x6.size : Int) then (if (x6.extract 1 x6.size).toList = ([] : List UInt8) then (dec_cut.j2 k (x6.extract 1 x6.size) 1 false x131000 x131001) else (if 0 < ((x6.extract 1 x6.size).size : Int) then (if (bt (x6.extract 1 x6.size) 0) = 43 then (dec_cut.j2 k (x6.extract 1 x6.size) 1 true x131000 x131001) else (dec_cut.j2 k (x6.extract 1 x6.size) 1 ((bt (x6.extract 1 x6.size) 0) == 45) x131000 x131001)) else (none))) else (none))
def dec_cut.j2 : Nat → ByteArray → Int → Bool → ByteArray → Int → Option (ByteArray × Int × Bool)
 | 0,_,_,_,_,_ => none
 | k + 1,x6,x8,x71,x131000,x131001 => if x71 = true then (if 0 < (x6.size : Int) then (if (bt x6 0) = 45 then (if 1 ≤ (x6.size : Int) then (dec_cut.j3 k (x6.extract 1 x6.size) (-1) x131000 x131001) else (none)) else (if 1 ≤ (x6.size : Int) then (dec_cut.j3 k (x6.extract 1 x6.size) x8 x131000 x131001) else (none))) else (none)) else (dec_cut.j3 k x6 x8 x131000 x131001)
def dec_cut.j3 : Nat → ByteArray → Int → ByteArray → Int → Option (ByteArray × Int × Bool)
 | 0,_,_,_,_ => none
 | k + 1,x6,x8,x131000,x131001 => if x6.toList = ([] : List UInt8) then (dec_cut.j4 k x6 x8 true x131000 x131001) else ((dec_digits.f k x6).bind fun t133 => (dec_cut.j4 k x6 x8 (t133 != (x6.size : Int)) x131000 x131001))
def dec_cut.j4 : Nat → ByteArray → Int → Bool → ByteArray → Int → Option (ByteArray × Int × Bool)
 | 0,_,_,_,_,_ => none
 | k + 1,x6,x8,x85,x131000,x131001 => if x85 = true then (some (x131000,x131001,false)) else (dec_cut.l0 k x6 x8 0 (x6.size : Int) 0 x131000 x131001)
def dec_cut.l0 : Nat → ByteArray → Int → Int → Int → Int → ByteArray → Int → Option (ByteArray × Int × Bool)
 | 0,_,_,_,_,_,_,_ => none
 | k + 1,x6,x8,x9,x88,x89,x131000,x131001 => if x89 < x88 then (if 0 ≤ x89 then (if x89 < (x6.size : Int) then (dec_cut.l0 k x6 x8 (mn (wrap64 ((wrap64 (10 * x9)) + (((bt x6 x89) - 48) % 256))) 9999) x88 (wrap64 (x89 + 1)) x131000 x131001) else (none)) else (none)) else (some (x131000,wrap64 (x131001 + (wrap64 (x8 * x9))),true))
end
def dec_cut.f (k : Nat) (a0 : ByteArray) : Option (ByteArray × Int × Bool) := (dec_digits.f k a0).bind fun t129 => (if 0 ≤ t129 then (if t129 ≤ (a0.size : Int) then (if t129 = 0 then (some (a0.extract 0 (t129 : Int).toNat,0,false)) else ((strings_HasPrefix.f (a0.extract (t129 : Int).toNat a0.size) (⟨#[46]⟩ : ByteArray)).bind fun t131 => (if t131 = true then (if 1 ≤ ((a0.extract (t129 : Int).toNat a0.size).size : Int) then ((dec_digits.f k ((a0.extract (t129 : Int).toNat a0.size).extract 1 (a0.extract (t129 : Int).toNat a0.size).size)).bind fun t132 => (if t132 = 0 then (some (a0.extract 0 (t129 : Int).toNat,0,false)) else (if 1 ≤ (wrap64 (1 + t132)) then (if (wrap64 (1 + t132)) ≤ ((a0.extract (t129 : Int).toNat a0.size).size : Int) then (if (a0.extract 0 (t129 : Int).toNat).size + ((a0.extract (t129 : Int).toNat a0.size).extract 1 ((wrap64 (1 + t132)) : Int).toNat).size ≤ 9223372036854775807 then (if 0 ≤ (wrap64 (1 + t132)) then (dec_cut.j0 k ((a0.extract (t129 : Int).toNat a0.size).extract ((wrap64 (1 + t132)) : Int).toNat (a0.extract (t129 : Int).toNat a0.size).size) ((a0.extract 0 (t129 : Int).toNat) ++ ((a0.extract (t129 : Int).toNat a0.size).extract 1 ((wrap64 (1 + t132)) : Int).toNat)) (wrap64 (-t132))) else (none)) else (none)) else (none)) else (none)))) else (none)) else (dec_cut.j0 k (a0.extract (t129 : Int).toNat a0.size) (a0.extract 0 (t129 : Int).toNat) 0)))) else (none)) else (none))
theorem dec_cut.mono_l : ∀ k,(∀ y0 y1 y2,LeO (dec_cut.j0 k y0 y1 y2) (dec_cut.j0 (k + 1) y0 y1 y2)) ∧ (∀ y0 y1 y2 y3,LeO (dec_cut.j1 k y0 y1 y2 y3) (dec_cut.j1 (k + 1) y0 y1 y2 y3)) ∧ (∀ y0 y1 y2 y3 y4,LeO (dec_cut.j2 k y0 y1 y2 y3 y4) (dec_cut.j2 (k + 1) y0 y1 y2 y3 y4)) ∧ (∀ y0 y1 y2 y3,LeO (dec_cut.j3 k y0 y1 y2 y3) (dec_cut.j3 (k + 1) y0 y1 y2 y3)) ∧ (∀ y0 y1 y2 y3 y4,LeO (dec_cut.j4 k y0 y1 y2 y3 y4) (dec_cut.j4 (k + 1) y0 y1 y2 y3 y4)) ∧ (∀ y0 y1 y2 y3 y4 y5 y6,LeO (dec_cut.l0 k y0 y1 y2 y3 y4 y5 y6) (dec_cut.l0 (k + 1) y0 y1 y2 y3 y4 y5 y6))
 | 0 => ⟨fun _ _ _ r h => by simp [dec_cut.j0] at h,fun _ _ _ _ r h => by simp [dec_cut.j1] at h,fun _ _ _ _ _ r h => by simp [dec_cut.j2] at h,fun _ _ _ _ r h => by simp [dec_cut.j3] at h,fun _ _ _ _ _ r h => by simp [dec_cut.j4] at h,fun _ _ _ _ _ _ _ r h => by simp [dec_cut.l0] at h⟩
 | k + 1 => by
  obtain ⟨ih0,ih1,ih2,ih3,ih4,ih5⟩ := dec_cut.mono_l k;refine ⟨?_,?_,?_,?_,?_,?_⟩
  all_goals intros
  all_goals first | unfold dec_cut.j0 | unfold dec_cut.j1 | unfold dec_cut.j2 | unfold dec_cut.j3 | unfold dec_cut.j4 | unfold dec_cut.l0
  all_goals repeat' first
   | (with_reducible exact ih0 _ _ _)
   | (with_reducible exact ih1 _ _ _ _)
   | (with_reducible exact ih2 _ _ _ _ _)
   | (with_reducible exact ih3 _ _ _ _)
   | (with_reducible exact ih4 _ _ _ _ _)
   | (with_reducible exact ih5 _ _ _ _ _ _ _)
   | (with_reducible exact dec_digits.mono _ _)
   | (with_reducible exact LeO.refl _)
   | (with_reducible exact LeO.none _)
   | (with_reducible refine LeO.ite ?_ ?_)
   | (with_reducible refine LeO.bind ?_ (fun _ => ?_))
   | exact ih0 _ _ _
   | exact ih1 _ _ _ _
   | exact ih2 _ _ _ _ _
   | exact ih3 _ _ _ _
   | exact ih4 _ _ _ _ _
   | exact ih5 _ _ _ _ _ _ _
   | exact dec_digits.mono _ _
   | exact LeO.none _
   | refine LeO.ite ?_ ?_
   | refine LeO.bind ?_ (fun _ => ?_)
theorem dec_cut.mono : ∀ a0 k,LeO (dec_cut.f k a0) (dec_cut.f (k + 1) a0) := by
 intro a0 k;obtain ⟨ih0,ih1,ih2,ih3,ih4,ih5⟩ := dec_cut.mono_l k;unfold dec_cut.f
 repeat' first
   | (with_reducible exact ih0 _ _ _)
   | (with_reducible exact ih1 _ _ _ _)
   | (with_reducible exact ih2 _ _ _ _ _)
   | (with_reducible exact ih3 _ _ _ _)
   | (with_reducible exact ih4 _ _ _ _ _)
   | (with_reducible exact ih5 _ _ _ _ _ _ _)
   | (with_reducible exact dec_digits.mono _ _)
   | (with_reducible exact LeO.refl _)
   | (with_reducible exact LeO.none _)
   | (with_reducible refine LeO.ite ?_ ?_)
   | (with_reducible refine LeO.bind ?_ (fun _ => ?_))
   | exact ih0 _ _ _
   | exact ih1 _ _ _ _
   | exact ih2 _ _ _ _ _
   | exact ih3 _ _ _ _
   | exact ih4 _ _ _ _ _
   | exact ih5 _ _ _ _ _ _ _
   | exact dec_digits.mono _ _
   | exact LeO.none _
   | refine LeO.ite ?_ ?_
   | refine LeO.bind ?_ (fun _ => ?_)
def dec_cut.T2 : Bool × List (List Nat × List Nat) := (true,[([],[]),([],[]),([0,1],[0,1]),([2],[2]),([],[]),([],[]),([4,5],[4,5]),([],[]),([7,3,0,1,2,3,7],[3,7]),([6,8,0,1,2,3,4,5,6,7,8],[6])])
def dec_cut.B2 : List Nat := [0,0,3,7,0,0,48,0,143,511]
theorem dec_cut.tab2 : rtab .any (opsOf Tryz.f38 2) = dec_cut.T2 := by kernel_rfl
theorem dec_cut.bits2 : zXK dec_cut.T2.2 dec_cut.B2 = true := by kernel_rfl
def dec_cut.T9 : Bool × List (List Nat × List Nat) := (true,[([],[]),([0],[0]),([],[]),([],[]),([3],[3]),([2,4],[2,4]),([1,5],[1,5]),([],[]),([7],[7]),([],[]),([],[]),([10],[10]),([9,11],[9,11]),([0,1,2,3,4,5,6],[]),([13,6,0,1,2,3,4,5,6],[6,13]),([0,1,2,3,4,5,6,7,8,13,14],[]),([15,8,14,0,1,2,3,4,5,6,7,8,13,14],[8,15]),([12,16,0,1,2,3,4,5,6,7,8,9,10,11,12,13,14,15,16],[2,9,12])])
def dec_cut.B9 : List Nat := [0,1,0,0,8,28,63,0,128,0,0,1024,3584,127,8319,25087,57855,131071]
theorem dec_cut.tab9 : rtab .any (opsOf Tryz.f38 9) = dec_cut.T9 := by kernel_rfl
theorem dec_cut.bits9 : zXK dec_cut.T9.2 dec_cut.B9 = true := by kernel_rfl
set_option maxHeartbeats 8000000 in
set_option maxRecDepth 100000 in
theorem dec_cut.calls (k : Nat) (a0 : ByteArray) (r1 : ByteArray) (r2 : Int) (r3 : Bool) (w : World) (h : dec_cut.f k a0 = some (r1,r2,r3)) :
  Calls Tryz.prog 38 #[.string a0] w fun e w' => e = .returned (.tuple #[.agg #[.string r1,.int .i64 r2],.bool r3]) ∧ Below w.heap.size w w' := by
 have hu49 := Tryz.underlying49;have HB := am (Below.refl w.heap.size w);have H := h;unfold dec_cut.f at H;clear h;obtain ⟨aV,A2,H⟩ := oB H;(try dsimp only at H);obtain ⟨c3,H⟩ := iN H;have fA := eq_true c3;have fB : decide (0 ≤ aV) = true := decide_eq_true c3;clear c3;obtain ⟨c4,H⟩ := iN H;have fC := eq_true c4;have fD : decide (aV ≤ (a0.size : Int)) = true := decide_eq_true c4;clear c4;obtain ⟨aU,bK⟩ : ∃ j_ : ByteArray,(a0.extract 0 (aV : Int).toNat) = j_ := ⟨_,rfl⟩;(replace H : (if aV = 0 then (some (aU,0,false)) else ((strings_HasPrefix.f (a0.extract (aV : Int).toNat a0.size) (⟨#[46]⟩ : ByteArray)).bind fun fE => (if fE = true then (if 1 ≤ ((a0.extract (aV : Int).toNat a0.size).size : Int) then ((dec_digits.f k ((a0.extract (aV : Int).toNat a0.size).extract 1 (a0.extract (aV : Int).toNat a0.size).size)).bind fun aJ => (if aJ = 0 then (some (aU,0,false)) else (if 1 ≤ (wrap64 (1 + aJ)) then (if (wrap64 (1 + aJ)) ≤ ((a0.extract (aV : Int).toNat a0.size).size : Int) then (if (aU).size + ((a0.extract (aV : Int).toNat a0.size).extract 1 ((wrap64 (1 + aJ)) : Int).toNat).size ≤ 9223372036854775807 then (if 0 ≤ (wrap64 (1 + aJ)) then (dec_cut.j0 k ((a0.extract (aV : Int).toNat a0.size).extract ((wrap64 (1 + aJ)) : Int).toNat (a0.extract (aV : Int).toNat a0.size).size) ((aU) ++ ((a0.extract (aV : Int).toNat a0.size).extract 1 ((wrap64 (1 + aJ)) : Int).toNat)) (wrap64 (-aJ))) else (none)) else (none)) else (none)) else (none)))) else (none)) else (dec_cut.j0 k (a0.extract (aV : Int).toNat a0.size) aU 0)))) = some (r1,r2,r3) := by first | (rw [bK] at H;exact H) | (simp only [bK] at H ⊢;exact H) | exact H);(try rw [bK] at A2);have fF := eq_true (pD : 0 ≤ aV);have fG := eq_true (pD : aV ≤ (a0.size : Int));obtain ⟨aW,bF⟩ : ∃ j_ : ByteArray,(a0.extract (aV : Int).toNat a0.size) = j_ := ⟨_,rfl⟩;(replace H : (if aV = 0 then (some (aU,0,false)) else ((strings_HasPrefix.f (aW) (⟨#[46]⟩ : ByteArray)).bind fun fE => (if fE = true then (if 1 ≤ ((aW).size : Int) then ((dec_digits.f k ((aW).extract 1 (aW).size)).bind fun aJ => (if aJ = 0 then (some (aU,0,false)) else (if 1 ≤ (wrap64 (1 + aJ)) then (if (wrap64 (1 + aJ)) ≤ ((aW).size : Int) then (if (aU).size + ((aW).extract 1 ((wrap64 (1 + aJ)) : Int).toNat).size ≤ 9223372036854775807 then (if 0 ≤ (wrap64 (1 + aJ)) then (dec_cut.j0 k ((aW).extract ((wrap64 (1 + aJ)) : Int).toNat (aW).size) ((aU) ++ ((aW).extract 1 ((wrap64 (1 + aJ)) : Int).toNat)) (wrap64 (-aJ))) else (none)) else (none)) else (none)) else (none)))) else (none)) else (dec_cut.j0 k aW aU 0)))) = some (r1,r2,r3) := by first | (rw [bF] at H;exact H) | (simp only [bF] at H ⊢;exact H) | exact H);(try rw [bF] at A2);rcases iT H with ⟨c9,H⟩ | ⟨c9,H⟩
 ·have dS : (aV == 0) = true := beq_iff_eq.mpr c9;have dU : (aV != 0) = false := bne_eq_false_iff_eq.mpr c9;clear c9;simp only [Option.some.injEq,Prod.mk.injEq] at H;obtain ⟨rfl,rfl,rfl⟩ := H;go_enter Tryz.func38,Tryz.ntmps38;(try go_wp2_with (first | ((with_reducible refine zQq (N := 2) rfl ?_);(try (refine zXM (by rfl) ?_;dsimp only));refine zQy ?hg (N := 2) ?hd (cs := #[.string (⟨#[]⟩ : ByteArray),.int .i64 0]) (t := 49) ?hr ?_;(case hd => rfl);(case hg => rfl);(case hr => first | (go_simp;done) | (go_simp;rfl));intro aN hg gL hbox hb;have aA := am (hbox);have GW128 := am ((by rw [hg];exact (zQa pB) : w.heap.size ≤ aN));have GE128 := am ((by rw [hg];exact (zQa pB) : w.heap.size ≤ aN));replace HB := bS hb;clear hb hbox hg) | ((with_reducible refine zQb (f := 52) rfl ?_);refine zQh (some 12) rfl rfl Tryz.func52 (by kernel_rfl) rfl #[.string a0] rfl pM ?_;(with_reducible refine (dec_digits.calls k a0 aV _ A2.out).mono ?_);rintro e w' ⟨rfl,⟨nd,rfl⟩⟩;refine ⟨_,rfl,?_⟩;(try (rw [zQX gL];generalize hq_ : World.drewN gL _ = gL;have n0_ : Aside0 (gL.heap[aN]? = some (.cells #[.string (⟨#[]⟩ : ByteArray),.int .i64 0] 49 (0,0))) := ⟨by rw [← hq_];exact (pK aA.out)⟩;have n1_ : Aside0 (Below w.heap.size w gL) := ⟨by rw [← hq_];exact pB⟩;clear aA HB hq_;have aA := n0_;have HB := n1_;clear n0_ n1_)))));replace aA := am (zQe aA.out);replace HB := am (zQC HB.out);refine zXS (n := 10) (S := fun w' => True) (ds := []) (bm 10 0) (by kernel_rfl) rfl rfl trivial (fun hHeld => ?_);refine zXj dec_cut.tab2 dec_cut.bits2 (fun HT_ HW_ => ?_);generalize gL.drew = kF at aA HB hHeld ⊢
  refine puA 0 (some 13) ?_ (bm 10 1) rfl rfl HT_.out (Or.inl ⟨by kernel_rfl,?_⟩) ?_ ?_ ?_
  rotate_left;(intro w';go_simp;with_reducible rfl);rotate_left;exact pA
  refine puA 1 (some 14) ?_ (bm 10 3) rfl rfl HT_.out (Or.inl ⟨by kernel_rfl,?_⟩) ?_ ?_ ?_
  rotate_left;(intro w';go_simp;with_reducible rfl);rotate_left;exact pA
  refine puA 2 (some 15) ?_ (bm 10 7) rfl rfl HT_.out (Or.inl ⟨by kernel_rfl,?_⟩) ?_ ?_ ?_
  rotate_left;(intro w';go_simp;with_reducible rfl);rotate_left;exact pA
  refine puA 3 (some 16) ?_ (bm 10 15) rfl rfl HT_.out (Or.inl ⟨by kernel_rfl,?_⟩) ?_ ?_ ?_
  rotate_left;(intro w';go_simp;with_reducible rfl);rotate_left;exact pA
  refine puA 4 (some 17) ?_ (bm 10 31) rfl rfl HT_.out (Or.inl ⟨by kernel_rfl,?_⟩) ?_ ?_ ?_
  rotate_left;(intro w';go_simp;with_reducible rfl);rotate_left;exact pA
  refine puA 5 (some 18) ?_ (bm 10 63) rfl rfl HT_.out (Or.inl ⟨by kernel_rfl,?_⟩) ?_ ?_ ?_
  rotate_left;(intro w';go_simp;with_reducible rfl);rotate_left;exact pA
  refine puA 6 (some 19) ?_ (bm 10 127) rfl rfl HT_.out (Or.inl ⟨by kernel_rfl,?_⟩) ?_ ?_ ?_
  rotate_left;(intro w';go_simp;with_reducible rfl);rotate_left;exact pA;refine one_ (i := 7) (N := some 5) (bm 10 255) rfl rfl (zQJ HT_.out (by kernel_rfl)) (by decide) (fun K hK => ?_);refine zBN ?hg (N := 5) ?hd (cs := #[.string (⟨#[]⟩ : ByteArray),.int .i64 0]) (t := 49) ?hr ?_;(case hd => rfl);(case hg => rfl);(case hr => first | (go_simp;done) | (go_simp;rfl));intro aK hg jM hbox hb;have n0_ := am (pkb aA.out hb);have n1_ := bS hb;have n2_ := am (hbox);have n3_ := am ((by rw [hg];exact (zQa pB) : w.heap.size ≤ aK));have n4_ := am ((by rw [hg];exact (zQa pB) : w.heap.size ≤ aK));have n5_ := am ((by rw [hg];exact Nat.ne_of_lt (pkl aA.out) : aN ≠ aK));have n6_ := am ((by rw [hg];exact Nat.ne_of_gt (pkl aA.out) : aK ≠ aN));clear aA HB;have aA := n0_;have HB := n1_;have aG := n2_;have GW130 := n3_;have GE130 := n4_;have NB128_130 := n5_;have NB130_128 := n6_;clear n0_ n1_ n2_ n3_ n4_ n5_ n6_ hb hbox hg;refine hK.out _ _ trivial (fun hHeld => ?_);clear hK K
  refine norm_ (a' := ?_) ?_ ?_
  rotate_left;(show Act.put _ (some 5) _ = _;exact pA);refine one_ (i := 8) (N := none) (bm 10 511) rfl rfl (zQJ HT_.out (by kernel_rfl)) (by decide) (fun K hK => ?_);have hs13 : jM.cell? ⟨aK,0,none⟩ = some (.string (⟨#[]⟩ : ByteArray)) := cz0 aG.out;have hfs13 := zQz aG.out 0;have hns13_0 := NB128_130.out;have hms13_0 := NB130_128.out;have hs14 : jM.cell? ⟨aK,1,none⟩ = some (.int .i64 0) := cz1 aG.out;have hfs14 := zQz aG.out 1;have hns14_0 := NB128_130.out;have hms14_0 := NB130_128.out;refine skip_ (w1 := ?_) ?hw rfl ?_ ?_;(case hw => kernel_rfl);rotate_left
  ·go_simp
   rfl
  refine hK.out _ _ trivial (fun hHeld => ?_);clear hK K
  refine puA 9 (some 6) ?_ (bm 10 1023) rfl rfl HT_.out (Or.inl ⟨by kernel_rfl,?_⟩) ?_ ?_ ?_
  rotate_left;(intro w';go_simp;with_reducible rfl);rotate_left;exact pA
  refine done_ (zXI HT_.out (by kernel_rfl)) ?_
  have hnb15 := NB130_128.out;have hnc15 := NB128_130.out;have gM := cf2 aG.out;have gN := cf2 aA.out;try go_wp2
  refine bodyPost_ret (zXf rfl _ _ aN 49 #[.string aU,.int .i64 0] (0,0) _ rfl (by (with_reducible repeat (first | refine zQc ?_ _ | refine zQe ?_ | refine zQd ?_ _));refine zQl (cs := #[.string aU,.int .i64 0]) ?_ 1 _ rfl;(with_reducible repeat (first | refine zQc ?_ _ | refine zQe ?_ | refine zQd ?_ _));refine zQl (cs := #[.string (⟨#[]⟩ : ByteArray),.int .i64 0]) ?_ 0 _ rfl;(with_reducible repeat (first | refine zQc ?_ _ | refine zQe ?_ | refine zQd ?_ _));refine zQB ?_ NB128_130.out _;(with_reducible repeat (first | refine zQc ?_ _ | refine zQe ?_ | refine zQd ?_ _));refine zQB ?_ NB128_130.out _;(with_reducible repeat (first | refine zQc ?_ _ | refine zQe ?_ | refine zQd ?_ _));exact aA.out) Tryz.underlying49 rfl (by kernel_rfl)) rfl ?_
  exact ⟨by first | rfl | (simp [errW_none,errW_some] <;> rfl) | (simp only [← bK,← bF];first | rfl | (simp [errW_none,errW_some] <;> rfl)) | (simp [*,errW_none,errW_some] <;> rfl),pB⟩
 ·have dS : (aV == 0) = false := beq_eq_false_iff_ne.mpr c9;have dU : (aV != 0) = true := bne_iff_ne.mpr c9;obtain ⟨fE,jU,H⟩ := oB H;(try dsimp only at H);have HC19 := am H;clear H;go_enter Tryz.func38,Tryz.ntmps38;(try go_wp2_with (first | ((with_reducible refine zQq (N := 2) rfl ?_);(try (refine zXM (by rfl) ?_;dsimp only));refine zQy ?hg (N := 2) ?hd (cs := #[.string (⟨#[]⟩ : ByteArray),.int .i64 0]) (t := 49) ?hr ?_;(case hd => rfl);(case hg => rfl);(case hr => first | (go_simp;done) | (go_simp;rfl));intro aN hg gP hbox hb;have aA := am (hbox);have GW128 := am ((by rw [hg];exact (zQa pB) : w.heap.size ≤ aN));have GE128 := am ((by rw [hg];exact (zQa pB) : w.heap.size ≤ aN));replace HB := bS hb;clear hb hbox hg) | ((with_reducible refine zQb (f := 52) rfl ?_);refine zQh (some 12) rfl rfl Tryz.func52 (by kernel_rfl) rfl #[.string a0] rfl pM ?_;(with_reducible refine (dec_digits.calls k a0 aV _ A2.out).mono ?_);rintro e w' ⟨rfl,⟨nd,rfl⟩⟩;refine ⟨_,rfl,?_⟩;(try (rw [zQX gP];generalize hq_ : World.drewN gP _ = gP;have n0_ : Aside0 (gP.heap[aN]? = some (.cells #[.string (⟨#[]⟩ : ByteArray),.int .i64 0] 49 (0,0))) := ⟨by rw [← hq_];exact (pK aA.out)⟩;have n1_ : Aside0 (Below w.heap.size w gP) := ⟨by rw [← hq_];exact pB⟩;clear aA HB hq_;have aA := n0_;have HB := n1_;clear n0_ n1_)))));replace aA := am (zQe aA.out);replace HB := am (zQC HB.out);refine zXS (n := 10) (S := fun w' => True) (ds := []) (bm 10 0) (by kernel_rfl) rfl rfl trivial (fun hHeld => ?_);refine zXj dec_cut.tab2 dec_cut.bits2 (fun HT_ HW_ => ?_);generalize gP.drew = kG at aA HB hHeld ⊢
  refine puA 0 (some 13) ?_ (bm 10 1) rfl rfl HT_.out (Or.inl ⟨by kernel_rfl,?_⟩) ?_ ?_ ?_
  rotate_left;(intro w';go_simp;with_reducible rfl);rotate_left;exact pA
  refine puA 1 (some 14) ?_ (bm 10 3) rfl rfl HT_.out (Or.inl ⟨by kernel_rfl,?_⟩) ?_ ?_ ?_
  rotate_left;(intro w';go_simp;with_reducible rfl);rotate_left;exact pA
  refine puA 2 (some 15) ?_ (bm 10 7) rfl rfl HT_.out (Or.inl ⟨by kernel_rfl,?_⟩) ?_ ?_ ?_
  rotate_left;(intro w';go_simp;with_reducible rfl);rotate_left;exact pA
  refine puA 3 (some 16) ?_ (bm 10 15) rfl rfl HT_.out (Or.inl ⟨by kernel_rfl,?_⟩) ?_ ?_ ?_
  rotate_left;(intro w';go_simp;with_reducible rfl);rotate_left;exact pA
  refine puA 4 (some 17) ?_ (bm 10 31) rfl rfl HT_.out (Or.inl ⟨by kernel_rfl,?_⟩) ?_ ?_ ?_
  rotate_left;(intro w';go_simp;with_reducible rfl);rotate_left;exact pA
  refine puA 5 (some 18) ?_ (bm 10 63) rfl rfl HT_.out (Or.inl ⟨by kernel_rfl,?_⟩) ?_ ?_ ?_
  rotate_left;(intro w';go_simp;with_reducible rfl);rotate_left;exact pA
  refine puA 6 (some 19) ?_ (bm 10 127) rfl rfl HT_.out (Or.inl ⟨by kernel_rfl,?_⟩) ?_ ?_ ?_
  rotate_left;(intro w';go_simp;with_reducible rfl);rotate_left;exact pA;refine one_ (i := 7) (N := some 5) (bm 10 255) rfl rfl (zQJ HT_.out (by kernel_rfl)) (by decide) (fun K hK => ?_);refine zBN ?hg (N := 5) ?hd (cs := #[.string (⟨#[]⟩ : ByteArray),.int .i64 0]) (t := 49) ?hr ?_;(case hd => rfl);(case hg => rfl);(case hr => first | (go_simp;done) | (go_simp;rfl));intro aK hg gQ hbox hb;have n0_ := am (pkb aA.out hb);have n1_ := bS hb;have n2_ := am (hbox);have n3_ := am ((by rw [hg];exact (zQa pB) : w.heap.size ≤ aK));have n4_ := am ((by rw [hg];exact (zQa pB) : w.heap.size ≤ aK));have n5_ := am ((by rw [hg];exact Nat.ne_of_lt (pkl aA.out) : aN ≠ aK));have n6_ := am ((by rw [hg];exact Nat.ne_of_gt (pkl aA.out) : aK ≠ aN));clear aA HB;have aA := n0_;have HB := n1_;have aG := n2_;have GW130 := n3_;have GE130 := n4_;have NB128_130 := n5_;have NB130_128 := n6_;clear n0_ n1_ n2_ n3_ n4_ n5_ n6_ hb hbox hg;refine hK.out _ _ trivial (fun hHeld => ?_);clear hK K
  refine norm_ (a' := ?_) ?_ ?_
  rotate_left;(show Act.put _ (some 5) _ = _;exact pA);refine one_ (i := 8) (N := none) (bm 10 511) rfl rfl (zQJ HT_.out (by kernel_rfl)) (by decide) (fun K hK => ?_);have hs23 : gQ.cell? ⟨aK,0,none⟩ = some (.string (⟨#[]⟩ : ByteArray)) := cz0 aG.out;have hfs23 := zQz aG.out 0;have hns23_0 := NB128_130.out;have hms23_0 := NB130_128.out;have hs24 : gQ.cell? ⟨aK,1,none⟩ = some (.int .i64 0) := cz1 aG.out;have hfs24 := zQz aG.out 1;have hns24_0 := NB128_130.out;have hms24_0 := NB130_128.out;refine skip_ (w1 := ?_) ?hw rfl ?_ ?_;(case hw => kernel_rfl);rotate_left
  ·go_simp
   rfl
  refine hK.out _ _ trivial (fun hHeld => ?_);clear hK K
  refine puA 9 (some 6) ?_ (bm 10 1023) rfl rfl HT_.out (Or.inl ⟨by kernel_rfl,?_⟩) ?_ ?_ ?_
  rotate_left;(intro w';go_simp;with_reducible rfl);rotate_left;exact pA
  refine done_ (zXI HT_.out (by kernel_rfl)) ?_
  go_upto_if 24 with (first | ((with_reducible refine zQb (f := 53) rfl ?_);refine zQh (some 24) rfl rfl Tryz.func53 (by kernel_rfl) rfl #[.string aW,.string (⟨#[46]⟩ : ByteArray)] rfl (by (try simp only [List.map_toArray,List.map_cons,List.map_nil]);first | done | (simp only [bF];rfl) | rfl | (simp only [List.length_drop,List.length_take];rfl)) ?_;(with_reducible refine (strings_HasPrefix.calls aW (⟨#[46]⟩ : ByteArray) fE _ jU.out).mono ?_);rintro e w' ⟨rfl,⟨nd,rfl⟩⟩;refine ⟨_,rfl,?_⟩))
  (try simp only [Act.put,List.setIfInBounds_toArray,List.set_cons_zero,List.set_cons_succ])
  go_cut [6] (fun v6 wc => ∃ (kq : Nat) (aI : ByteArray) (aQ : ByteArray) (aM : Int) (aC : ByteArray) (aH : Int),v6 = .string aI ∧ Aside0 (dec_cut.j0 kq aI aC aH = some (r1,r2,r3)) ∧ Aside0 (kq ≤ k) ∧ Aside0 (wc.heap[aN]? = some (.cells #[.string aQ,.int .i64 aM] 49 (0,0))) ∧ Aside0 (wc.heap[aK]? = some (.cells #[.string aC,.int .i64 aH] 49 (0,0))) ∧ Aside0 (Below w.heap.size w wc))
  case first =>
   have H := HC19.out;clear HC19;by_cases dO : fE = true
   ·subst dO;rw [if_pos rfl] at H;obtain ⟨dX,H⟩ := iN H;have dB := eq_true dX;have dC : decide (1 ≤ ((aW).size : Int)) = true := decide_eq_true dX;clear dX;obtain ⟨gD,dY⟩ : ∃ j_ : ByteArray,((aW).extract 1 (aW).size) = j_ := ⟨_,rfl⟩;(replace H : ((dec_digits.f k (gD)).bind fun aJ => (if aJ = 0 then (some (aU,0,false)) else (if 1 ≤ (wrap64 (1 + aJ)) then (if (wrap64 (1 + aJ)) ≤ ((aW).size : Int) then (if (aU).size + ((aW).extract 1 ((wrap64 (1 + aJ)) : Int).toNat).size ≤ 9223372036854775807 then (if 0 ≤ (wrap64 (1 + aJ)) then (dec_cut.j0 k ((aW).extract ((wrap64 (1 + aJ)) : Int).toNat (aW).size) ((aU) ++ ((aW).extract 1 ((wrap64 (1 + aJ)) : Int).toNat)) (wrap64 (-aJ))) else (none)) else (none)) else (none)) else (none)))) = some (r1,r2,r3) := by first | (rw [dY] at H;exact H) | (simp only [dY] at H ⊢;exact H) | exact H);obtain ⟨aJ,iJ,H⟩ := oB H;(try dsimp only at H);rcases iT H with ⟨bX,H⟩ | ⟨bX,H⟩
    ·have aY : (aJ == 0) = true := beq_iff_eq.mpr bX;have aZ : (aJ != 0) = false := bne_eq_false_iff_eq.mpr bX;clear bX;(first | rw [aY] | (simp only [i64_w,i32_w];rw [aY]) | rw [aZ] | (simp only [i64_w,i32_w];rw [aZ]) | skip);simp only [Option.some.injEq,Prod.mk.injEq] at H;obtain ⟨rfl,rfl,rfl⟩ := H;go_wp2_with (first | ((with_reducible refine zQb (f := 52) rfl ?_);refine zQh (some 27) rfl rfl Tryz.func52 (by kernel_rfl) rfl #[.string gD] rfl (by (try simp only [List.map_toArray,List.map_cons,List.map_nil]);first | done | (simp only [dY];rfl) | rfl | (simp only [List.length_drop,List.length_take];rfl)) ?_;(with_reducible refine (dec_digits.calls k gD aJ _ iJ.out).mono ?_);rintro e w' ⟨rfl,⟨nd,rfl⟩⟩;refine ⟨_,rfl,?_⟩;have hnb30 := NB130_128.out;have hnc30 := NB128_130.out;have gT := cf2 aG.out;have gU := cf2 aA.out))
     refine bodyPost_ret (zXf rfl _ _ aN 49 #[.string aU,.int .i64 0] (0,0) _ rfl (by (with_reducible repeat (first | refine zQc ?_ _ | refine zQe ?_ | refine zQd ?_ _));refine zQl (cs := #[.string aU,.int .i64 0]) ?_ 1 _ rfl;(with_reducible repeat (first | refine zQc ?_ _ | refine zQe ?_ | refine zQd ?_ _));refine zQl (cs := #[.string (⟨#[]⟩ : ByteArray),.int .i64 0]) ?_ 0 _ rfl;(with_reducible repeat (first | refine zQc ?_ _ | refine zQe ?_ | refine zQd ?_ _));refine zQB ?_ NB128_130.out _;(with_reducible repeat (first | refine zQc ?_ _ | refine zQe ?_ | refine zQd ?_ _));refine zQB ?_ NB128_130.out _;(with_reducible repeat (first | refine zQc ?_ _ | refine zQe ?_ | refine zQd ?_ _));exact aA.out) Tryz.underlying49 rfl (by kernel_rfl)) rfl ?_
     exact ⟨by first | rfl | (simp [errW_none,errW_some] <;> rfl) | (simp only [← bK,← bF,← dY];first | rfl | (simp [errW_none,errW_some] <;> rfl)) | (simp [*,errW_none,errW_some] <;> rfl),pB⟩
    ·have aY : (aJ == 0) = false := beq_eq_false_iff_ne.mpr bX;have aZ : (aJ != 0) = true := bne_iff_ne.mpr bX;(first | rw [aY] | (simp only [i64_w,i32_w];rw [aY]) | rw [aZ] | (simp only [i64_w,i32_w];rw [aZ]) | skip);obtain ⟨dZ,H⟩ := iN H;have bL := eq_true dZ;have bM : decide (1 ≤ (wrap64 (1 + aJ))) = true := decide_eq_true dZ;obtain ⟨eB,H⟩ := iN H;have bN := eq_true eB;have bO : decide ((wrap64 (1 + aJ)) ≤ ((aW).size : Int)) = true := decide_eq_true eB;obtain ⟨bZ,fM⟩ : ∃ j_ : ByteArray,((aW).extract 1 ((wrap64 (1 + aJ)) : Int).toNat) = j_ := ⟨_,rfl⟩;(replace H : (if (aU).size + (bZ).size ≤ 9223372036854775807 then (if 0 ≤ (wrap64 (1 + aJ)) then (dec_cut.j0 k ((aW).extract ((wrap64 (1 + aJ)) : Int).toNat (aW).size) ((aU) ++ (bZ)) (wrap64 (-aJ))) else (none)) else (none)) = some (r1,r2,r3) := by first | (rw [fM] at H;exact H) | (simp only [fM] at H ⊢;exact H) | exact H);(try rw [fM] at iJ);obtain ⟨eD,H⟩ := iN H;have dD := eq_true eD;have dE : decide ((aU).size + (bZ).size ≤ 9223372036854775807) = true := decide_eq_true eD;(try have dF : (9223372036854775807 < (aU).size + (bZ).size) = False := eq_false (Nat.not_lt.2 eD));obtain ⟨fH,bA⟩ : ∃ j_ : Int,(wrap64 (1 + aJ)) = j_ := ⟨_,rfl⟩;(replace H : (if 0 ≤ (fH) then (dec_cut.j0 k ((aW).extract ((fH) : Int).toNat (aW).size) ((aU) ++ (bZ)) (wrap64 (-aJ))) else (none)) = some (r1,r2,r3) := by first | (rw [bA] at H;exact H) | (simp only [bA] at H ⊢;exact H));(try rw [bA] at fM);(try rw [bA] at bL);(try rw [bA] at bM);(try rw [bA] at dZ);(try rw [bA] at bN);(try rw [bA] at bO);(try rw [bA] at eB);(try rw [bA] at iJ);have jV : (IntKind.i64.wrap (1 + aJ)) = fH := (i64_w _).trans bA;obtain ⟨eF,H⟩ := iN H;have dG := eq_true eF;have dH : decide (0 ≤ (fH)) = true := decide_eq_true eF;clear eF;have dI := eq_true (pD : (fH) ≤ ((aW).size : Int));obtain ⟨jC,fO⟩ : ∃ j_ : ByteArray,((aW).extract ((fH) : Int).toNat (aW).size) = j_ := ⟨_,rfl⟩;(replace H : (dec_cut.j0 k jC ((aU) ++ (bZ)) (wrap64 (-aJ))) = some (r1,r2,r3) := by first | (rw [fO] at H;exact H) | (simp only [fO] at H ⊢;exact H) | exact H);(try rw [fO] at iJ);have H' := am H;clear H;(try go_wp2_with (first | ((with_reducible refine zQb (f := 52) rfl ?_);refine zQh (some 27) rfl rfl Tryz.func52 (by kernel_rfl) rfl #[.string gD] rfl (by (try simp only [List.map_toArray,List.map_cons,List.map_nil]);first | done | (simp only [dY];rfl) | rfl | (simp only [List.length_drop,List.length_take];rfl)) ?_;(with_reducible refine (dec_digits.calls k gD aJ _ iJ.out).mono ?_);rintro e w' ⟨rfl,⟨nd,rfl⟩⟩;refine ⟨_,rfl,?_⟩)));have n0_ : Aside0 (((gQ.setCell ⟨aK,0,none⟩ (.string aU)).setCell ⟨aK,1,none⟩ (.int .i64 0)).heap[aN]? = some (.cells #[.string (⟨#[]⟩ : ByteArray),.int .i64 0] 49 (0,0))) := ⟨by (with_reducible repeat (first | refine zQc ?_ _ | refine zQe ?_ | refine zQd ?_ _));refine zQB ?_ NB128_130.out _;(with_reducible repeat (first | refine zQc ?_ _ | refine zQe ?_ | refine zQd ?_ _));refine zQB ?_ NB128_130.out _;(with_reducible repeat (first | refine zQc ?_ _ | refine zQe ?_ | refine zQd ?_ _));exact aA.out⟩;have n1_ : Aside0 (((gQ.setCell ⟨aK,0,none⟩ (.string aU)).setCell ⟨aK,1,none⟩ (.int .i64 0)).heap[aK]? = some (.cells #[.string aU,.int .i64 0] 49 (0,0))) := ⟨by (with_reducible repeat (first | refine zQc ?_ _ | refine zQe ?_ | refine zQd ?_ _));refine zQl (cs := #[.string aU,.int .i64 0]) ?_ 1 _ rfl;(with_reducible repeat (first | refine zQc ?_ _ | refine zQe ?_ | refine zQd ?_ _));refine zQl (cs := #[.string (⟨#[]⟩ : ByteArray),.int .i64 0]) ?_ 0 _ rfl;(with_reducible repeat (first | refine zQc ?_ _ | refine zQe ?_ | refine zQd ?_ _));exact aG.out⟩;have n2_ : Aside0 (Below w.heap.size w ((gQ.setCell ⟨aK,0,none⟩ (.string aU)).setCell ⟨aK,1,none⟩ (.int .i64 0))) := ⟨pB⟩;(try clear aA);(try clear aG);(try clear HB);generalize ((gQ.setCell ⟨aK,0,none⟩ (.string aU)).setCell ⟨aK,1,none⟩ (.int .i64 0)) = gF at n0_ n1_ n2_ ⊢;have aA := n0_;have aG := n1_;have HB := n2_;clear n0_ n1_ n2_;(try (rw [zQX gF];generalize hq_ : World.drewN gF _ = gF;have n0_ : Aside0 (gF.heap[aN]? = some (.cells #[.string (⟨#[]⟩ : ByteArray),.int .i64 0] 49 (0,0))) := ⟨by rw [← hq_];exact (pK aA.out)⟩;have n1_ : Aside0 (gF.heap[aK]? = some (.cells #[.string aU,.int .i64 0] 49 (0,0))) := ⟨by rw [← hq_];exact (pK aG.out)⟩;have n2_ : Aside0 (Below w.heap.size w gF) := ⟨by rw [← hq_];exact pB⟩;clear aA aG HB hq_;have aA := n0_;have aG := n1_;have HB := n2_;clear n0_ n1_ n2_));replace aA := am (zQe aA.out);replace aG := am (zQe aG.out);replace HB := am (zQC HB.out);refine zXS (n := 18) (S := fun w' => w'.cell? ⟨aK,0,none⟩ = some (.string aU) ∧ w'.cell? ⟨aK,1,none⟩ = some (.int .i64 0)) (ds := [14,16]) (bm 18 0) (by kernel_rfl) rfl rfl ⟨cz0 aG.out,cz1 aG.out⟩ (fun hHeld => ?_);refine zXj dec_cut.tab9 dec_cut.bits9 (fun HT_ HW_ => ?_);generalize gF.drew = jN at aA aG HB hHeld ⊢
     refine puA 0 (some 31) ?_ (bm 18 1) rfl rfl HT_.out (Or.inl ⟨by kernel_rfl,?_⟩) ?_ ?_ ?_
     rotate_left;(intro w';go_simp;with_reducible rfl);rotate_left;exact pA
     refine puA 2 (some 33) ?_ (bm 18 5) rfl rfl HT_.out (Or.inl ⟨by kernel_rfl,?_⟩) ?_ ?_ ?_
     rotate_left;(intro w';go_simp;with_reducible rfl);rotate_left;exact pA
     refine puA 3 (some 34) ?_ (bm 18 13) rfl rfl HT_.out (Or.inl ⟨by kernel_rfl,?_⟩) ?_ ?_ ?_
     rotate_left;(intro w';go_simp;with_reducible rfl);rotate_left;exact pA
     refine puA 4 (some 35) ?_ (bm 18 29) rfl rfl HT_.out (Or.inl ⟨by kernel_rfl,?_⟩) ?_ ?_ ?_
     rotate_left;(intro w';go_simp;with_reducible rfl);rotate_left;exact pA
     refine puA 5 (some 36) ?_ (bm 18 61) rfl rfl HT_.out (Or.inl ⟨by kernel_rfl,?_⟩) ?_ ?_ ?_
     rotate_left;(intro w';go_simp;with_reducible rfl);rotate_left;exact pA
     refine puA 7 (some 38) ?_ (bm 18 189) rfl rfl HT_.out (Or.inl ⟨by kernel_rfl,?_⟩) ?_ ?_ ?_
     rotate_left;(intro w';go_simp;with_reducible rfl);rotate_left;exact pA
     refine puA 8 (some 39) ?_ (bm 18 445) rfl rfl HT_.out (Or.inl ⟨by kernel_rfl,?_⟩) ?_ ?_ ?_
     rotate_left;(intro w';go_simp;with_reducible rfl);rotate_left;exact pA
     refine puA 9 (some 40) ?_ (bm 18 957) rfl rfl HT_.out (Or.inl ⟨by kernel_rfl,?_⟩) ?_ ?_ ?_
     rotate_left;(intro w';go_simp;with_reducible rfl);rotate_left;exact pA
     refine puA 10 (some 41) ?_ (bm 18 1981) rfl rfl HT_.out (Or.inl ⟨by kernel_rfl,?_⟩) ?_ ?_ ?_
     rotate_left;(intro w';go_simp;with_reducible rfl);rotate_left;exact pA
     refine puA 11 (some 42) ?_ (bm 18 4029) rfl rfl HT_.out (Or.inl ⟨by kernel_rfl,?_⟩) ?_ ?_ ?_
     rotate_left;(intro w';go_simp;with_reducible rfl);rotate_left;exact pA
     refine puA 12 (some 43) ?_ (bm 18 8125) rfl rfl HT_.out (Or.inl ⟨by kernel_rfl,?_⟩) ?_ ?_ ?_
     rotate_left;(intro w';go_simp;with_reducible rfl);rotate_left;exact pA
     refine take_ (i := 1) (N := some 32) (v := ?_) (a' := ?_) (bm 18 8127) rfl rfl (zXg HT_.out HW_.out (by kernel_rfl)) (fun _ _ _ h => h) (Or.inl ⟨by kernel_rfl,?_⟩) hHeld ?_ ?_
     rotate_left;(rintro w' ⟨s0,s1⟩;go_simp;with_reducible rfl);rotate_left;exact pA
     refine puA 6 (some 37) ?_ (bm 18 8191) rfl rfl HT_.out (Or.inl ⟨by kernel_rfl,?_⟩) ?_ ?_ ?_
     rotate_left;(intro w';go_simp;with_reducible rfl);rotate_left;exact pA
     refine puA 13 (some 44) ?_ (bm 18 16383) rfl rfl HT_.out (Or.inl ⟨by kernel_rfl,?_⟩) ?_ ?_ ?_
     rotate_left;(intro w';go_simp;with_reducible rfl);rotate_left;exact pA;refine last_ (i := 14) (N := none) (bm 18 32767) rfl rfl (zQJ HT_.out (by kernel_rfl)) (by decide) (fun K hK => ?_);have hs43 : jN.cell? ⟨aK,0,none⟩ = some (.string aU) := cz0 aG.out;have hfs43 := zQz aG.out 0;have hns43_0 := NB128_130.out;have hms43_0 := NB130_128.out;refine skip_ (w1 := ?_) ?hw rfl ?_ ?_;(case hw => kernel_rfl);rotate_left
     ·go_simp
      rfl
     refine hK.out _ _ ?_
     clear hK K
     refine puA 15 (some 45) ?_ (bm 18 65535) rfl rfl HT_.out (Or.inl ⟨by kernel_rfl,?_⟩) ?_ ?_ ?_
     rotate_left;(intro w';go_simp;with_reducible rfl);rotate_left;exact pA;refine last_ (i := 16) (N := none) (bm 18 131071) rfl rfl (zQJ HT_.out (by kernel_rfl)) (by decide) (fun K hK => ?_);have hs44 : jN.cell? ⟨aK,1,none⟩ = some (.int .i64 0) := cz1 aG.out;have hfs44 := zQz aG.out 1;have hns44_0 := NB128_130.out;have hms44_0 := NB130_128.out;refine skip_ (w1 := ?_) ?hw rfl ?_ ?_;(case hw => kernel_rfl);rotate_left
     ·go_simp
      rfl
     refine hK.out _ _ ?_
     clear hK K
     refine puA 17 (some 6) ?_ (bm 18 262143) rfl rfl HT_.out (Or.inl ⟨by kernel_rfl,?_⟩) ?_ ?_ ?_
     rotate_left;(intro w';go_simp;with_reducible rfl);rotate_left;exact pA
     refine done_ (zXI HT_.out (by kernel_rfl)) ?_
     (try go_wp2);go_meet
     case rel => exact ⟨_,(jC),((⟨#[]⟩ : ByteArray)),(0),((aU) ++ (bZ)),(wrap64 (-aJ)),(by first | rfl | (simp;done) | (simp only [← fO] <;> (first | rfl | simp)) | (simp [*];done)),H',⟨by first | omega | exact Nat.le_refl _⟩,⟨by (with_reducible repeat (first | refine zQc ?_ _ | refine zQe ?_ | refine zQd ?_ _));refine zQB ?_ NB128_130.out _;(with_reducible repeat (first | refine zQc ?_ _ | refine zQe ?_ | refine zQd ?_ _));refine zQB ?_ NB128_130.out _;(with_reducible repeat (first | refine zQc ?_ _ | refine zQe ?_ | refine zQd ?_ _));exact aA.out⟩,⟨by (with_reducible repeat (first | refine zQc ?_ _ | refine zQe ?_ | refine zQd ?_ _));refine zQl (cs := #[.string ((aU) ++ (bZ)),.int .i64 0]) ?_ 1 _ rfl;(with_reducible repeat (first | refine zQc ?_ _ | refine zQe ?_ | refine zQd ?_ _));refine zQl (cs := #[.string aU,.int .i64 0]) ?_ 0 _ rfl;(with_reducible repeat (first | refine zQc ?_ _ | refine zQe ?_ | refine zQd ?_ _));exact aG.out⟩,⟨pB⟩⟩
   ·replace dO := Bool.eq_false_iff.mpr dO;subst dO;rw [if_neg (show ¬ (false = true) by decide)] at H;have H' := am H;clear H;go_wp2;go_meet
    case rel => exact ⟨_,(aW),((⟨#[]⟩ : ByteArray)),(0),(aU),(0),(by first | rfl | (simp;done) | (simp only [← bF] <;> (first | rfl | simp)) | (simp [*];done)),H',⟨by first | omega | exact Nat.le_refl _⟩,⟨by (with_reducible repeat (first | refine zQc ?_ _ | refine zQe ?_ | refine zQd ?_ _));refine zQB ?_ NB128_130.out _;(with_reducible repeat (first | refine zQc ?_ _ | refine zQe ?_ | refine zQd ?_ _));refine zQB ?_ NB128_130.out _;(with_reducible repeat (first | refine zQc ?_ _ | refine zQe ?_ | refine zQd ?_ _));exact aA.out⟩,⟨by (with_reducible repeat (first | refine zQc ?_ _ | refine zQe ?_ | refine zQd ?_ _));refine zQl (cs := #[.string aU,.int .i64 0]) ?_ 1 _ rfl;(with_reducible repeat (first | refine zQc ?_ _ | refine zQe ?_ | refine zQd ?_ _));refine zQl (cs := #[.string (⟨#[]⟩ : ByteArray),.int .i64 0]) ?_ 0 _ rfl;(with_reducible repeat (first | refine zQc ?_ _ | refine zQe ?_ | refine zQd ?_ _));exact aG.out⟩,⟨pB⟩⟩
  case rest =>
   clear HC19;(try clear c1);(try clear c2);(try clear p2);(try clear c3);(try clear fA);(try clear fB);(try clear c4);(try clear fC);(try clear fD);(try clear c5);(try clear c6);(try clear fF);(try clear p6);(try clear c7);(try clear fG);(try clear c9);(try clear dS);(try clear dU);(try clear iK);(try clear dO);(try clear dX);(try clear dB);(try clear dC);(try clear bX);(try clear aY);(try clear aZ);(try clear iL);(try clear dZ);(try clear bL);(try clear bM);(try clear eB);(try clear bN);(try clear bO);(try clear eD);(try clear dD);(try clear dE);(try clear dF);(try clear eF);(try clear dG);(try clear dH);(try clear iM);(try clear dI);(try clear gM gN gT gU);obtain ⟨kq,aI,aQ,aM,aC,aH,rfl,HA,bB,aA,aG,HB⟩ := hcut
   cases kq with
   | zero => exact absurd HA.out (by simp [dec_cut.j0])
   | succ jT =>
    have H := HA.out;clear HA;simp only [dec_cut.j0] at H;rcases iT H with ⟨cB,H⟩ | ⟨cB,H⟩
    ·have dJ : (aI.toList == ([] : List UInt8)) = true := beq_iff_eq.mpr cB;have dK : (aI.toList != ([] : List UInt8)) = false := bne_eq_false_iff_eq.mpr cB;clear cB;simp only [Option.some.injEq,Prod.mk.injEq] at H;obtain ⟨rfl,rfl,rfl⟩ := H;have hnb46 := NB130_128.out;have hnc46 := NB128_130.out;have iO := cf2 aG.out;have iP := cf2 aA.out;go_wp2
     refine bodyPost_ret (zXf rfl _ _ aN 49 #[.string aC,.int .i64 aH] (0,0) _ rfl (by (with_reducible repeat (first | refine zQc ?_ _ | refine zQe ?_ | refine zQd ?_ _));refine zQl (cs := #[.string aC,.int .i64 aM]) ?_ 1 _ rfl;(with_reducible repeat (first | refine zQc ?_ _ | refine zQe ?_ | refine zQd ?_ _));refine zQl (cs := #[.string aQ,.int .i64 aM]) ?_ 0 _ rfl;(with_reducible repeat (first | refine zQc ?_ _ | refine zQe ?_ | refine zQd ?_ _));exact aA.out) Tryz.underlying49 rfl (by kernel_rfl)) rfl ?_
     exact ⟨by first | rfl | (simp [errW_none,errW_some] <;> rfl) | (simp only [← bK,← bF];first | rfl | (simp [errW_none,errW_some] <;> rfl)) | (simp [*,errW_none,errW_some] <;> rfl),pB⟩
    ·have dJ : (aI.toList == ([] : List UInt8)) = false := beq_eq_false_iff_ne.mpr cB;have dK : (aI.toList != ([] : List UInt8)) = true := bne_iff_ne.mpr cB;have HC49 := am H;clear H;go_upto_region 12 with (fail)
     go_cut [56] (fun v56 wc => ∃ (kq : Nat) (eG : Bool),v56 = .bool eG ∧ Aside0 (dec_cut.j1 kq aI eG aC aH = some (r1,r2,r3)) ∧ Aside0 (kq ≤ jT) ∧ Aside0 (wc.heap[aN]? = some (.cells #[.string aQ,.int .i64 aM] 49 (0,0))) ∧ Aside0 (wc.heap[aK]? = some (.cells #[.string aC,.int .i64 aH] 49 (0,0))) ∧ Aside0 (Below w.heap.size w wc))
     case first =>
      have H := HC49.out;clear HC49;obtain ⟨gG,H⟩ := iN H;have bP : decide (0 < (aI.size : Int)) = true := decide_eq_true gG;have bQ : decide (0 < aI.size) = true := decide_eq_true (by omega);clear gG;(first | rw [bP] | (simp only [i64_w,i32_w];rw [bP]) | rw [bQ] | (simp only [i64_w,i32_w];rw [bQ]) | skip);rcases iT H with ⟨cK,H⟩ | ⟨cK,H⟩
      ·have dL : ((bt aI 0) == 101) = true := beq_iff_eq.mpr cK;have dM : ((bt aI 0) != 101) = false := bne_eq_false_iff_eq.mpr cK;clear cK;have H' := am H;clear H;have bI : 0 ≤ (0 : Int) := (by omega);have bG : 0 < aI.size := (by have : (0 : Int) < (aI.size : Int) := pD;omega);have fI : ∀ h : 0 < aI.size,((aI[0]'h).toNat : Int) = bt aI 0 := bt_at aI 0;clear bI;have qi51 : (0 < (aI.size : Int)) = True := eq_true pD;replace bG := eq_true bG;go_wp2;go_meet
       case rel => exact ⟨_,(false),pS,H',⟨by have := bB.out;first | omega | exact Nat.le_refl _⟩,⟨pK aA.out⟩,⟨pK aG.out⟩,⟨pB⟩⟩
      ·have dL : ((bt aI 0) == 101) = false := beq_eq_false_iff_ne.mpr cK;have dM : ((bt aI 0) != 101) = true := bne_iff_ne.mpr cK;have H' := am H;clear H;have bI : 0 ≤ (0 : Int) := (by omega);have bG : 0 < aI.size := (by have : (0 : Int) < (aI.size : Int) := pD;omega);have fI : ∀ h : 0 < aI.size,((aI[0]'h).toNat : Int) = bt aI 0 := bt_at aI 0;clear bI;have qi51 : (0 < (aI.size : Int)) = True := eq_true pD;replace bG := eq_true bG;have cO : 0 ≤ (0 : Int) := (by omega);have bY : 0 < aI.size := (by have : (0 : Int) < (aI.size : Int) := pD;omega);have gH : ∀ h : 0 < aI.size,((aI[0]'h).toNat : Int) = bt aI 0 := bt_at aI 0;clear cO;have qi53 : (0 < (aI.size : Int)) = True := eq_true pD;replace bY := eq_true bY;go_wp2;go_meet
       case rel => exact ⟨_,(((bt aI 0) != 69)),pS,H',⟨by have := bB.out;first | omega | exact Nat.le_refl _⟩,⟨pK aA.out⟩,⟨pK aG.out⟩,⟨pB⟩⟩
     case rest =>
      clear HC49;(try clear c1);(try clear c2);(try clear p2);(try clear c3);(try clear fA);(try clear fB);(try clear c4);(try clear fC);(try clear fD);(try clear c5);(try clear p5);(try clear q5);(try clear iX);(try clear qi5);(try clear c6);(try clear fF);(try clear p6);(try clear c7);(try clear fG);(try clear c9);(try clear dS);(try clear dU);(try clear iK);(try clear dO);(try clear dX);(try clear dB);(try clear dC);(try clear bX);(try clear aY);(try clear aZ);(try clear iL);(try clear dZ);(try clear bL);(try clear bM);(try clear eB);(try clear bN);(try clear bO);(try clear eD);(try clear dD);(try clear dE);(try clear dF);(try clear eF);(try clear dG);(try clear dH);(try clear iM);(try clear dI);(try clear cB);(try clear dJ);(try clear dK);(try clear iY);(try clear gG);(try clear bP);(try clear bQ);(try clear bI);(try clear bG);(try clear fI);(try clear qi51);(try clear cK);(try clear dL);(try clear dM);(try clear iZ);(try clear cO);(try clear bY);(try clear gH);(try clear qi53);(try clear gM gN gT gU iO iP);(try clear p2);(try clear bI);(try clear cO);(try clear p6);(try clear bG);(try clear bY);obtain ⟨kq,eG,rfl,HA,bH,aA,aG,HB⟩ := hcut
      cases kq with
      | zero => exact absurd HA.out (by simp [dec_cut.j1])
      | succ gZ =>
       have H := HA.out;clear HA;simp only [dec_cut.j1] at H;by_cases fJ : eG = true
       ·subst fJ;rw [if_pos rfl] at H;simp only [Option.some.injEq,Prod.mk.injEq] at H;obtain ⟨rfl,rfl,rfl⟩ := H;have hnb55 := NB130_128.out;have hnc55 := NB128_130.out;have jA := cf2 aG.out;have jB := cf2 aA.out;go_wp2
        refine bodyPost_ret (zXf rfl _ _ aN 49 #[.string aC,.int .i64 aH] (0,0) _ rfl (by (with_reducible repeat (first | refine zQc ?_ _ | refine zQe ?_ | refine zQd ?_ _));refine zQl (cs := #[.string aC,.int .i64 aM]) ?_ 1 _ rfl;(with_reducible repeat (first | refine zQc ?_ _ | refine zQe ?_ | refine zQd ?_ _));refine zQl (cs := #[.string aQ,.int .i64 aM]) ?_ 0 _ rfl;(with_reducible repeat (first | refine zQc ?_ _ | refine zQe ?_ | refine zQd ?_ _));exact aA.out) Tryz.underlying49 rfl (by kernel_rfl)) rfl ?_
        exact ⟨by first | rfl | (simp [errW_none,errW_some] <;> rfl) | (simp only [← bK,← bF];first | rfl | (simp [errW_none,errW_some] <;> rfl)) | (simp [*,errW_none,errW_some] <;> rfl),pB⟩
       ·replace fJ := Bool.eq_false_iff.mpr fJ;subst fJ;rw [if_neg (show ¬ (false = true) by decide)] at H;obtain ⟨gI,H⟩ := iN H;have fP := eq_true gI;have fQ : decide (1 ≤ (aI.size : Int)) = true := decide_eq_true gI;clear gI;obtain ⟨aD,dN⟩ : ∃ j_ : ByteArray,(aI.extract 1 aI.size) = j_ := ⟨_,rfl⟩;(replace H : (if (aD).toList = ([] : List UInt8) then (dec_cut.j2 gZ aD 1 false aC aH) else (if 0 < ((aD).size : Int) then (if (bt (aD) 0) = 43 then (dec_cut.j2 gZ aD 1 true aC aH) else (dec_cut.j2 gZ aD 1 ((bt (aD) 0) == 45) aC aH)) else (none))) = some (r1,r2,r3) := by first | (rw [dN] at H;exact H) | (simp only [dN] at H ⊢;exact H) | exact H);have HC60 := am H;clear H;go_upto_region 16 with (fail)
        go_cut [71] (fun v71 wc => ∃ (kq : Nat) (eH : Bool),v71 = .bool eH ∧ Aside0 (dec_cut.j2 kq aD 1 eH aC aH = some (r1,r2,r3)) ∧ Aside0 (kq ≤ gZ) ∧ Aside0 (wc.heap[aN]? = some (.cells #[.string aQ,.int .i64 aM] 49 (0,0))) ∧ Aside0 (wc.heap[aK]? = some (.cells #[.string aC,.int .i64 aH] 49 (0,0))) ∧ Aside0 (Below w.heap.size w wc))
        case first =>
         have H := HC60.out;clear HC60;rcases iT H with ⟨dP,H⟩ | ⟨dP,H⟩
         ·have bC : ((aD).toList == ([] : List UInt8)) = true := beq_iff_eq.mpr dP;have bE : ((aD).toList != ([] : List UInt8)) = false := bne_eq_false_iff_eq.mpr dP;clear dP;(first | rw [bC] | (simp only [i64_w,i32_w];rw [bC]) | rw [bE] | (simp only [i64_w,i32_w];rw [bE]) | skip);have H' := am H;clear H;go_wp2;go_meet
          case rel => exact ⟨_,(false),pS,H',⟨by have := bB.out;have := bH.out;first | omega | exact Nat.le_refl _⟩,⟨pK aA.out⟩,⟨pK aG.out⟩,⟨pB⟩⟩
         ·have bC : ((aD).toList == ([] : List UInt8)) = false := beq_eq_false_iff_ne.mpr dP;have bE : ((aD).toList != ([] : List UInt8)) = true := bne_iff_ne.mpr dP;(first | rw [bC] | (simp only [i64_w,i32_w];rw [bC]) | rw [bE] | (simp only [i64_w,i32_w];rw [bE]) | skip);obtain ⟨gV,H⟩ := iN H;have fT : decide (0 < ((aD).size : Int)) = true := decide_eq_true gV;have fU : decide (0 < (aD).size) = true := decide_eq_true (by omega);clear gV;rcases iT H with ⟨dQ,H⟩ | ⟨dQ,H⟩
          ·have eO : ((bt (aD) 0) == 43) = true := beq_iff_eq.mpr dQ;have eP : ((bt (aD) 0) != 43) = false := bne_eq_false_iff_eq.mpr dQ;clear dQ;have H' := am H;clear H;have cZ : 0 ≤ (0 : Int) := (by omega);have bJ : 0 < aD.size := (by have : (0 : Int) < (aD.size : Int) := pD;omega);have gJ : ∀ h : 0 < aD.size,((aD[0]'h).toNat : Int) = bt aD 0 := bt_at aD 0;clear cZ;have qi63 : (0 < (aD.size : Int)) = True := eq_true pD;replace bJ := eq_true bJ;go_wp2;go_meet
           case rel => exact ⟨_,(true),pS,H',⟨by have := bB.out;have := bH.out;first | omega | exact Nat.le_refl _⟩,⟨pK aA.out⟩,⟨pK aG.out⟩,⟨pB⟩⟩
          ·have eO : ((bt (aD) 0) == 43) = false := beq_eq_false_iff_ne.mpr dQ;have eP : ((bt (aD) 0) != 43) = true := bne_iff_ne.mpr dQ;have H' := am H;clear H;have cZ : 0 ≤ (0 : Int) := (by omega);have bJ : 0 < aD.size := (by have : (0 : Int) < (aD.size : Int) := pD;omega);have gJ : ∀ h : 0 < aD.size,((aD[0]'h).toNat : Int) = bt aD 0 := bt_at aD 0;clear cZ;have qi63 : (0 < (aD.size : Int)) = True := eq_true pD;replace bJ := eq_true bJ;have eQ : 0 ≤ (0 : Int) := (by omega);have dR : 0 < aD.size := (by have : (0 : Int) < (aD.size : Int) := pD;omega);have iA : ∀ h : 0 < aD.size,((aD[0]'h).toNat : Int) = bt aD 0 := bt_at aD 0;clear eQ;have qi65 : (0 < (aD.size : Int)) = True := eq_true pD;replace dR := eq_true dR;go_wp2;go_meet
           case rel => exact ⟨_,(((bt (aD) 0) == 45)),(by first | rfl | (simp;done) | (simp only [← dN] <;> (first | rfl | simp)) | (simp [*];done)),H',⟨by have := bB.out;have := bH.out;first | omega | exact Nat.le_refl _⟩,⟨pK aA.out⟩,⟨pK aG.out⟩,⟨pB⟩⟩
        case rest =>
         clear HC60;(try clear c1);(try clear c2);(try clear p2);(try clear c3);(try clear fA);(try clear fB);(try clear c4);(try clear fC);(try clear fD);(try clear c5);(try clear p5);(try clear q5);(try clear iX);(try clear qi5);(try clear c6);(try clear fF);(try clear p6);(try clear q6);(try clear jD);(try clear qi6);(try clear c7);(try clear fG);(try clear c9);(try clear dS);(try clear dU);(try clear iK);(try clear dO);(try clear dX);(try clear dB);(try clear dC);(try clear bX);(try clear aY);(try clear aZ);(try clear iL);(try clear dZ);(try clear bL);(try clear bM);(try clear eB);(try clear bN);(try clear bO);(try clear eD);(try clear dD);(try clear dE);(try clear dF);(try clear eF);(try clear dG);(try clear dH);(try clear iM);(try clear dI);(try clear cB);(try clear dJ);(try clear dK);(try clear iY);(try clear gG);(try clear bP);(try clear bQ);(try clear bI);(try clear bG);(try clear fI);(try clear qi51);(try clear cK);(try clear dL);(try clear dM);(try clear iZ);(try clear cO);(try clear bY);(try clear gH);(try clear qi53);(try clear fJ);(try clear jE);(try clear gI);(try clear fP);(try clear fQ);(try clear dP);(try clear bC);(try clear bE);(try clear gV);(try clear fT);(try clear fU);(try clear cZ);(try clear bJ);(try clear gJ);(try clear qi63);(try clear dQ);(try clear eO);(try clear eP);(try clear gW);(try clear eQ);(try clear dR);(try clear iA);(try clear qi65);(try clear gM gN gT gU iO iP jA jB);(try clear p2);(try clear p5);(try clear bI);(try clear cO);(try clear p6);(try clear cZ);(try clear eQ);(try clear q5);(try clear bG);(try clear bY);(try clear bJ);(try clear dR);obtain ⟨kq,eH,rfl,HA,dV,aA,aG,HB⟩ := hcut
         cases kq with
         | zero => exact absurd HA.out (by simp [dec_cut.j2])
         | succ iV =>
          have H := HA.out;clear HA;simp only [dec_cut.j2] at H;have HC66 := am H;clear H
          go_upto_if 71 with (fail)
          go_cut [6,8] (fun v6 v8 wc => ∃ (kq : Nat) (aT : ByteArray) (bT : Int),v6 = .string aT ∧ v8 = .int .i64 bT ∧ Aside0 (dec_cut.j3 kq aT bT aC aH = some (r1,r2,r3)) ∧ Aside0 (kq ≤ iV) ∧ Aside0 (wc.heap[aN]? = some (.cells #[.string aQ,.int .i64 aM] 49 (0,0))) ∧ Aside0 (wc.heap[aK]? = some (.cells #[.string aC,.int .i64 aH] 49 (0,0))) ∧ Aside0 (Below w.heap.size w wc))
          case first =>
           have H := HC66.out;clear HC66;by_cases gK : eH = true
           ·subst gK;rw [if_pos rfl] at H;obtain ⟨iQ,H⟩ := iN H;have eT : decide (0 < (aD.size : Int)) = true := decide_eq_true iQ;have eU : decide (0 < aD.size) = true := decide_eq_true (by omega);clear iQ;(first | rw [eT] | (simp only [i64_w,i32_w];rw [eT]) | rw [eU] | (simp only [i64_w,i32_w];rw [eU]) | skip);rcases iT H with ⟨eX,H⟩ | ⟨eX,H⟩
            ·have fV : ((bt aD 0) == 45) = true := beq_iff_eq.mpr eX;have fZ : ((bt aD 0) != 45) = false := bne_eq_false_iff_eq.mpr eX;clear eX;obtain ⟨gX,H⟩ := iN H;have iB := eq_true gX;have iC : decide (1 ≤ (aD.size : Int)) = true := decide_eq_true gX;clear gX;obtain ⟨jF,iD⟩ : ∃ j_ : ByteArray,(aD.extract 1 aD.size) = j_ := ⟨_,rfl⟩;(replace H : (dec_cut.j3 iV jF (-1) aC aH) = some (r1,r2,r3) := by first | (rw [iD] at H;exact H) | (simp only [iD] at H ⊢;exact H) | exact H);have H' := am H;clear H;have eY : 0 ≤ (0 : Int) := (by omega);have dA : 0 < aD.size := (by have : (0 : Int) < (aD.size : Int) := pD;omega);have iE : ∀ h : 0 < aD.size,((aD[0]'h).toNat : Int) = bt aD 0 := bt_at aD 0;clear eY;have qi69 : (0 < (aD.size : Int)) = True := eq_true pD;replace dA := eq_true dA;go_wp2;go_meet
             case rel => exact ⟨_,(jF),((-1)),(by first | rfl | (simp;done) | (simp only [← iD] <;> (first | rfl | simp)) | (simp [*];done)),pS,H',⟨by have := bB.out;have := bH.out;have := dV.out;first | omega | exact Nat.le_refl _⟩,⟨pK aA.out⟩,⟨pK aG.out⟩,⟨pB⟩⟩
            ·have fV : ((bt aD 0) == 45) = false := beq_eq_false_iff_ne.mpr eX;have fZ : ((bt aD 0) != 45) = true := bne_iff_ne.mpr eX;obtain ⟨gY,H⟩ := iN H;have iF := eq_true gY;have iG : decide (1 ≤ (aD.size : Int)) = true := decide_eq_true gY;clear gY;obtain ⟨jG,iH⟩ : ∃ j_ : ByteArray,(aD.extract 1 aD.size) = j_ := ⟨_,rfl⟩;(replace H : (dec_cut.j3 iV jG 1 aC aH) = some (r1,r2,r3) := by first | (rw [iH] at H;exact H) | (simp only [iH] at H ⊢;exact H) | exact H);have H' := am H;clear H;have eY : 0 ≤ (0 : Int) := (by omega);have dA : 0 < aD.size := (by have : (0 : Int) < (aD.size : Int) := pD;omega);have iE : ∀ h : 0 < aD.size,((aD[0]'h).toNat : Int) = bt aD 0 := bt_at aD 0;clear eY;have qi69 : (0 < (aD.size : Int)) = True := eq_true pD;replace dA := eq_true dA;go_wp2;go_meet
             case rel => exact ⟨_,(jG),(1),(by first | rfl | (simp;done) | (simp only [← iH] <;> (first | rfl | simp)) | (simp [*];done)),pS,H',⟨by have := bB.out;have := bH.out;have := dV.out;first | omega | exact Nat.le_refl _⟩,⟨pK aA.out⟩,⟨pK aG.out⟩,⟨pB⟩⟩
           ·replace gK := Bool.eq_false_iff.mpr gK;subst gK;rw [if_neg (show ¬ (false = true) by decide)] at H;have H' := am H;clear H;go_wp2;go_meet
            case rel => exact ⟨_,(aD),(1),(by first | rfl | (simp;done) | (simp only [← dN] <;> (first | rfl | simp)) | (simp [*];done)),pS,H',⟨by have := bB.out;have := bH.out;have := dV.out;first | omega | exact Nat.le_refl _⟩,⟨pK aA.out⟩,⟨pK aG.out⟩,⟨pB⟩⟩
          case rest =>
           clear HC66;(try clear c1);(try clear c2);(try clear p2);(try clear c3);(try clear fA);(try clear fB);(try clear c4);(try clear fC);(try clear fD);(try clear c5);(try clear p5);(try clear q5);(try clear iX);(try clear qi5);(try clear c6);(try clear fF);(try clear p6);(try clear q6);(try clear jD);(try clear qi6);(try clear c7);(try clear fG);(try clear c9);(try clear dS);(try clear dU);(try clear iK);(try clear dO);(try clear dX);(try clear dB);(try clear dC);(try clear bX);(try clear aY);(try clear aZ);(try clear iL);(try clear dZ);(try clear bL);(try clear bM);(try clear eB);(try clear bN);(try clear bO);(try clear eD);(try clear dD);(try clear dE);(try clear dF);(try clear eF);(try clear dG);(try clear dH);(try clear iM);(try clear dI);(try clear cB);(try clear dJ);(try clear dK);(try clear iY);(try clear gG);(try clear bP);(try clear bQ);(try clear bI);(try clear bG);(try clear fI);(try clear qi51);(try clear cK);(try clear dL);(try clear dM);(try clear iZ);(try clear cO);(try clear bY);(try clear gH);(try clear qi53);(try clear fJ);(try clear jE);(try clear gI);(try clear fP);(try clear fQ);(try clear dP);(try clear bC);(try clear bE);(try clear gV);(try clear fT);(try clear fU);(try clear cZ);(try clear bJ);(try clear gJ);(try clear qi63);(try clear dQ);(try clear eO);(try clear eP);(try clear gW);(try clear eQ);(try clear dR);(try clear iA);(try clear qi65);(try clear gK);(try clear iQ);(try clear eT);(try clear eU);(try clear eY);(try clear dA);(try clear iE);(try clear qi69);(try clear eX);(try clear fV);(try clear fZ);(try clear gX);(try clear iB);(try clear iC);(try clear gY);(try clear iF);(try clear iG);(try clear gM gN gT gU iO iP jA jB);(try clear p2);(try clear p5);(try clear bI);(try clear cO);(try clear p6);(try clear cZ);(try clear gW);(try clear eQ);(try clear eY);(try clear q5);(try clear bG);(try clear bY);(try clear q6);(try clear bJ);(try clear dR);(try clear dA);obtain ⟨kq,aT,bT,rfl,rfl,HA,iI,aA,aG,HB⟩ := hcut
           cases kq with
           | zero => exact absurd HA.out (by simp [dec_cut.j3])
           | succ jH =>
            have H := HA.out;clear HA;simp only [dec_cut.j3] at H;have HC75 := am H;clear H;go_upto_region 20 with (fail)
            go_cut [85] (fun v85 wc => ∃ (kq : Nat) (eZ : Bool),v85 = .bool eZ ∧ Aside0 (dec_cut.j4 kq aT bT eZ aC aH = some (r1,r2,r3)) ∧ Aside0 (kq ≤ jH) ∧ Aside0 (wc.heap[aN]? = some (.cells #[.string aQ,.int .i64 aM] 49 (0,0))) ∧ Aside0 (wc.heap[aK]? = some (.cells #[.string aC,.int .i64 aH] 49 (0,0))) ∧ Aside0 (Below w.heap.size w wc))
            case first =>
             have H := HC75.out;clear HC75;rcases iT H with ⟨fK,H⟩ | ⟨fK,H⟩
             ·have bV : (aT.toList == ([] : List UInt8)) = true := beq_iff_eq.mpr fK;have bW : (aT.toList != ([] : List UInt8)) = false := bne_eq_false_iff_eq.mpr fK;clear fK;(first | rw [bV] | (simp only [i64_w,i32_w];rw [bV]) | rw [bW] | (simp only [i64_w,i32_w];rw [bW]) | skip);have H' := am H;clear H;go_wp2;go_meet
              case rel => exact ⟨_,(true),pS,H',⟨by have := bB.out;have := bH.out;have := dV.out;have := iI.out;first | omega | exact Nat.le_refl _⟩,⟨pK aA.out⟩,⟨pK aG.out⟩,⟨pB⟩⟩
             ·have bV : (aT.toList == ([] : List UInt8)) = false := beq_eq_false_iff_ne.mpr fK;have bW : (aT.toList != ([] : List UInt8)) = true := bne_iff_ne.mpr fK;(first | rw [bV] | (simp only [i64_w,i32_w];rw [bV]) | rw [bW] | (simp only [i64_w,i32_w];rw [bW]) | skip);obtain ⟨jI,jW,H⟩ := oB H;(try dsimp only at H);have H' := am H;clear H;(go_wp2_with (first | (go_at_call 52;(with_reducible refine (dec_digits.calls jH aT jI _ jW.out).mono ?_);rintro e w' ⟨rfl,⟨nd,rfl⟩⟩)));go_meet
              case rel => exact ⟨_,((jI != (aT.size : Int))),pS,H',⟨by have := bB.out;have := bH.out;have := dV.out;have := iI.out;first | omega | exact Nat.le_refl _⟩,⟨pK aA.out⟩,⟨pK aG.out⟩,⟨pB⟩⟩
            case rest =>
             clear HC75;(try clear c1);(try clear c2);(try clear p2);(try clear c3);(try clear fA);(try clear fB);(try clear c4);(try clear fC);(try clear fD);(try clear c5);(try clear p5);(try clear q5);(try clear iX);(try clear qi5);(try clear c6);(try clear fF);(try clear p6);(try clear q6);(try clear jD);(try clear qi6);(try clear c7);(try clear fG);(try clear c9);(try clear dS);(try clear dU);(try clear iK);(try clear dO);(try clear dX);(try clear dB);(try clear dC);(try clear bX);(try clear aY);(try clear aZ);(try clear iL);(try clear dZ);(try clear bL);(try clear bM);(try clear eB);(try clear bN);(try clear bO);(try clear eD);(try clear dD);(try clear dE);(try clear dF);(try clear eF);(try clear dG);(try clear dH);(try clear iM);(try clear dI);(try clear cB);(try clear dJ);(try clear dK);(try clear iY);(try clear gG);(try clear bP);(try clear bQ);(try clear bI);(try clear bG);(try clear fI);(try clear qi51);(try clear cK);(try clear dL);(try clear dM);(try clear iZ);(try clear cO);(try clear bY);(try clear gH);(try clear qi53);(try clear fJ);(try clear jE);(try clear gI);(try clear fP);(try clear fQ);(try clear dP);(try clear bC);(try clear bE);(try clear gV);(try clear fT);(try clear fU);(try clear cZ);(try clear bJ);(try clear gJ);(try clear qi63);(try clear dQ);(try clear eO);(try clear eP);(try clear gW);(try clear eQ);(try clear dR);(try clear iA);(try clear qi65);(try clear gK);(try clear iQ);(try clear eT);(try clear eU);(try clear eY);(try clear dA);(try clear iE);(try clear qi69);(try clear eX);(try clear fV);(try clear fZ);(try clear gX);(try clear iB);(try clear iC);(try clear gY);(try clear iF);(try clear iG);(try clear fK);(try clear bV);(try clear bW);(try clear gM gN gT gU iO iP jA jB);(try clear p2);(try clear p5);(try clear bI);(try clear cO);(try clear p6);(try clear cZ);(try clear gW);(try clear eQ);(try clear eY);(try clear q5);(try clear bG);(try clear bY);(try clear q6);(try clear bJ);(try clear dR);(try clear dA);obtain ⟨kq,eZ,rfl,HA,jJ,aA,aG,HB⟩ := hcut
             cases kq with
             | zero => exact absurd HA.out (by simp [dec_cut.j4])
             | succ jK =>
              have H := HA.out;clear HA;simp only [dec_cut.j4] at H;by_cases iR : eZ = true
              ·subst iR;rw [if_pos rfl] at H;simp only [Option.some.injEq,Prod.mk.injEq] at H;obtain ⟨rfl,rfl,rfl⟩ := H;have hnb79 := NB130_128.out;have hnc79 := NB128_130.out;have jX := cf2 aG.out;have jY := cf2 aA.out;go_wp2
               refine bodyPost_ret (zXf rfl _ _ aN 49 #[.string aC,.int .i64 aH] (0,0) _ rfl (by (with_reducible repeat (first | refine zQc ?_ _ | refine zQe ?_ | refine zQd ?_ _));refine zQl (cs := #[.string aC,.int .i64 aM]) ?_ 1 _ rfl;(with_reducible repeat (first | refine zQc ?_ _ | refine zQe ?_ | refine zQd ?_ _));refine zQl (cs := #[.string aQ,.int .i64 aM]) ?_ 0 _ rfl;(with_reducible repeat (first | refine zQc ?_ _ | refine zQe ?_ | refine zQd ?_ _));exact aA.out) Tryz.underlying49 rfl (by kernel_rfl)) rfl ?_
               exact ⟨by first | rfl | (simp [errW_none,errW_some] <;> rfl) | (simp only [← bK,← bF,← dN];first | rfl | (simp [errW_none,errW_some] <;> rfl)) | (simp [*,errW_none,errW_some] <;> rfl),pB⟩
              ·replace iR := Bool.eq_false_iff.mpr iR;subst iR;rw [if_neg (show ¬ (false = true) by decide)] at H;have H' := am H;clear H;go_wp2
               go_loopg [9,89] jK (fun kq v9 v89 w' => ∃ (dW : Int) (aX : Int),v9 = .int .i64 dW ∧ v89 = .int .i64 aX ∧ Aside0 (dec_cut.l0 kq aT bT dW (aT.size : Int) aX aC aH = some (r1,r2,r3)) ∧ Aside0 (kq ≤ jK) ∧ Aside0 (w'.heap[aN]? = some (.cells #[.string aQ,.int .i64 aM] 49 (0,0))) ∧ Aside0 (w'.heap[aK]? = some (.cells #[.string aC,.int .i64 aH] 49 (0,0))) ∧ Aside0 (Below w.heap.size w w'))
               case atStart => exact ⟨(0),(0),pS,pS,H',⟨Nat.le_refl _⟩,⟨pK aA.out⟩,⟨pK aG.out⟩,⟨pB⟩⟩
               case round =>
                clear H';(try clear c1);(try clear c2);(try clear p2);(try clear c3);(try clear fA);(try clear fB);(try clear c4);(try clear fC);(try clear fD);(try clear c5);(try clear p5);(try clear q5);(try clear iX);(try clear qi5);(try clear c6);(try clear fF);(try clear p6);(try clear q6);(try clear jD);(try clear qi6);(try clear c7);(try clear fG);(try clear c9);(try clear dS);(try clear dU);(try clear iK);(try clear dO);(try clear dX);(try clear dB);(try clear dC);(try clear bX);(try clear aY);(try clear aZ);(try clear iL);(try clear dZ);(try clear bL);(try clear bM);(try clear eB);(try clear bN);(try clear bO);(try clear eD);(try clear dD);(try clear dE);(try clear dF);(try clear eF);(try clear dG);(try clear dH);(try clear iM);(try clear dI);(try clear cB);(try clear dJ);(try clear dK);(try clear iY);(try clear gG);(try clear bP);(try clear bQ);(try clear bI);(try clear bG);(try clear fI);(try clear qi51);(try clear cK);(try clear dL);(try clear dM);(try clear iZ);(try clear cO);(try clear bY);(try clear gH);(try clear qi53);(try clear fJ);(try clear jE);(try clear gI);(try clear fP);(try clear fQ);(try clear dP);(try clear bC);(try clear bE);(try clear gV);(try clear fT);(try clear fU);(try clear cZ);(try clear bJ);(try clear gJ);(try clear qi63);(try clear dQ);(try clear eO);(try clear eP);(try clear gW);(try clear eQ);(try clear dR);(try clear iA);(try clear qi65);(try clear gK);(try clear iQ);(try clear eT);(try clear eU);(try clear eY);(try clear dA);(try clear iE);(try clear qi69);(try clear eX);(try clear fV);(try clear fZ);(try clear gX);(try clear iB);(try clear iC);(try clear gY);(try clear iF);(try clear iG);(try clear fK);(try clear bV);(try clear bW);(try clear iR);(try clear kH);(try clear gM gN gT gU iO iP jA jB jX jY);(try clear p2);(try clear p5);(try clear bI);(try clear cO);(try clear p6);(try clear cZ);(try clear gW);(try clear eQ);(try clear eY);(try clear q5);(try clear bG);(try clear bY);(try clear q6);(try clear bJ);(try clear dR);(try clear dA);obtain ⟨dW,aX,rfl,rfl,HA,jO,aA,aG,HB⟩ := hrel
                cases gk with
                | zero => exact absurd HA.out (by simp [dec_cut.l0])
                | succ k6 =>
                 have H := HA.out;clear HA;simp only [dec_cut.l0] at H;rcases iT H with ⟨iU,H⟩ | ⟨iU,H⟩
                 ·have jL : decide (aX < (aT.size : Int)) = true := decide_eq_true iU;clear iU;obtain ⟨jP,H⟩ := iN H;have jZ : decide (0 ≤ aX) = true := decide_eq_true jP;clear jP;obtain ⟨jQ,H⟩ := iN H;have kC : decide (aX < (aT.size : Int)) = true := decide_eq_true jQ;clear jQ;obtain ⟨iW,gB⟩ : ∃ j_ : Int,(mn (wrap64 ((wrap64 (10 * dW)) + (((bt aT aX) - 48) % 256))) 9999) = j_ := ⟨_,rfl⟩;(replace H : (dec_cut.l0 k6 aT bT iW (aT.size : Int) (wrap64 (aX + 1)) aC aH) = some (r1,r2,r3) := by first | (rw [gB] at H;exact H) | (simp only [gB] at H ⊢;exact H));have hji86_ : (if 9999 < (wrap64 ((wrap64 (10 * dW)) + (((bt aT aX) - 48) % 256))) then 9999 else (wrap64 ((wrap64 (10 * dW)) + (((bt aT aX) - 48) % 256)))) = iW := gB;have H' := am H;clear H;have jR : 0 ≤ (aX : Int) := pD;have jS : aX < (aT.size : Int) := pD;have kD := bt_at aT aX;replace jR := eq_true jR;replace jS := eq_true jS;go_wp2
                  go_roundg k6
                  case measure => have := bB.out;have := bH.out;have := dV.out;have := iI.out;have := jJ.out;have := jO.out;omega
                  case rel => exact ⟨(iW),(wrap64 (aX + 1)),(by first | rfl | (simp;done) | (simp only [← gB] <;> (first | rfl | simp)) | (simp [*];done)),pS,H',⟨by have := bB.out;have := bH.out;have := dV.out;have := iI.out;have := jJ.out;have := jO.out;omega⟩,⟨pK aA.out⟩,⟨pK aG.out⟩,⟨pB⟩⟩
                 ·have jL : decide (aX < (aT.size : Int)) = false := decide_eq_false iU;clear iU;simp only [Option.some.injEq,Prod.mk.injEq] at H;obtain ⟨rfl,rfl,rfl⟩ := H;have hnb87 := NB130_128.out;have hnc87 := NB128_130.out;have kI := cf2 aG.out;have kJ := cf2 aA.out;go_wp2
                  refine bodyPost_ret (zXf rfl _ _ aN 49 #[.string aC,.int .i64 (wrap64 (aH + (wrap64 (bT * dW))))] (0,0) _ rfl (by (with_reducible repeat (first | refine zQc ?_ _ | refine zQe ?_ | refine zQd ?_ _));refine zQl (cs := #[.string aC,.int .i64 aM]) ?_ 1 _ rfl;(with_reducible repeat (first | refine zQc ?_ _ | refine zQe ?_ | refine zQd ?_ _));refine zQl (cs := #[.string aQ,.int .i64 aM]) ?_ 0 _ rfl;(with_reducible repeat (first | refine zQc ?_ _ | refine zQe ?_ | refine zQd ?_ _));refine zQB ?_ NB128_130.out _;(with_reducible repeat (first | refine zQc ?_ _ | refine zQe ?_ | refine zQd ?_ _));exact aA.out) Tryz.underlying49 rfl (by kernel_rfl)) rfl ?_
                  exact ⟨by first | rfl | (simp [errW_none,errW_some] <;> rfl) | (simp only [← bK,← bF,← dN];first | rfl | (simp [errW_none,errW_some] <;> rfl)) | (simp [*,errW_none,errW_some] <;> rfl),pB⟩
end Go.Proofs.YtongfmeediokmaaGreatDoor.Pr
end
section
namespace Go.Proofs.YtongfmeediokmaaGreatDoor.Pr
open Go.RowKit Go.Proofs.YtongfmeediokmaaGreatDoorW.PrintWords Go.Proofs.YtongfmeediokmaaGreatDoorW.PrintLast Go.Proofs.YtongfmeediokmaaGreatDoorW.PrintMore Go.Proofs.YtongfmeediokmaaGreatDoor.Pv
attribute [local go_sem] zXc zXa zXm zXl zQO zQN zXb zQZ
set_option maxHeartbeats 8000000
set_option maxRecDepth 100000
def b_times.l0 : Nat → Int → List Int → Int → List Int → Int → Int → Option (List Int)
 | 0,_,_,_,_,_,_ => none
 | k + 1,x1,x7,x8,x17,x18,x19 => if x19 < x18 then (if 0 ≤ x19 then (if x19 < (x17.length : Int) then (if x7.length < 35184372088832 then (b_times.l0 k x1 (x7 ++ [(IntKind.u64.wrap (x8 + (IntKind.u64.wrap ((IntKind.u64.wrap (rd x17 x19)) * (IntKind.u64.wrap (x1)))))) % 4294967296]) ((IntKind.u64.wrap (x8 + (IntKind.u64.wrap ((IntKind.u64.wrap (rd x17 x19)) * (IntKind.u64.wrap (x1)))))) / 4294967296) x17 x18 (wrap64 (x19 + 1))) else (none)) else (none)) else (none)) else (if x7.length < 35184372088832 then ((b_trim.f k (x7 ++ [(x8) % 4294967296])).bind fun t144 => (some t144)) else (none))
def b_times.f (k : Nat) (l0 : List Int) (a1 : Int) (a2 : Int) : Option (List Int) := if 0 ≤ wrap64 ((l0.length : Int) + 1) then (if (wrap64 ((l0.length : Int) + 1) : Int).toNat ≤ 70368744177664 then (b_times.l0 k a1 (List.replicate 0 0) (IntKind.u64.wrap (a2)) l0 (l0.length : Int) 0) else (none)) else (none)
theorem b_times.mono_l : ∀ k,(∀ y0 y1 y2 y3 y4 y5,LeO (b_times.l0 k y0 y1 y2 y3 y4 y5) (b_times.l0 (k + 1) y0 y1 y2 y3 y4 y5))
 | 0 => fun _ _ _ _ _ _ r h => by simp [b_times.l0] at h
 | k + 1 => by
  have ih0 := b_times.mono_l k
  ·intro y0 y1 y2 y3 y4 y5;unfold b_times.l0;repeat' first
   | (with_reducible exact ih0 _ _ _ _ _ _)
   | (with_reducible exact b_trim.mono _ _)
   | (with_reducible exact LeO.refl _)
   | (with_reducible exact LeO.none _)
   | (with_reducible refine LeO.ite ?_ ?_)
   | (with_reducible refine LeO.bind ?_ (fun _ => ?_))
   | exact ih0 _ _ _ _ _ _
   | exact b_trim.mono _ _
   | exact LeO.none _
   | refine LeO.ite ?_ ?_
   | refine LeO.bind ?_ (fun _ => ?_)
theorem b_times.mono : ∀ a0 a1 a2 k,LeO (b_times.f k a0 a1 a2) (b_times.f (k + 1) a0 a1 a2) := by
 intro a0 a1 a2 k;have ih0 := b_times.mono_l k;unfold b_times.f
 repeat' first
   | (with_reducible exact ih0 _ _ _ _ _ _)
   | (with_reducible exact b_trim.mono _ _)
   | (with_reducible exact LeO.refl _)
   | (with_reducible exact LeO.none _)
   | (with_reducible refine LeO.ite ?_ ?_)
   | (with_reducible refine LeO.bind ?_ (fun _ => ?_))
   | exact ih0 _ _ _ _ _ _
   | exact b_trim.mono _ _
   | exact LeO.none _
   | refine LeO.ite ?_ ?_
   | refine LeO.bind ?_ (fun _ => ?_)
theorem b_times.calls (k : Nat) (A0 : Option Addr) (c0 : Nat) (l0 : List Int) (a1 : Int) (a2 : Int) (r : List Int) (w : World) (hr0 : Kd.C (Kd.int .u32) w A0 l0.length l0) (hc0 : l0.length ≤ c0) (h : b_times.f k l0 a1 a2 = some r) :
  Calls Tryz.prog 54 #[.slice A0 l0.length c0,.int .u32 a1,.int .u32 a2] w fun e w' => ∃ v0_ : Value,e = .returned (v0_) ∧ Kd.V (Kd.int .u32) 72 w' w.heap.size (fun k_ => (w.heap.size ≤ k_)) v0_ r ∧ Below w.heap.size w w' := by
 have HR0 := am hr0;have HC0 := am hc0;clear hr0 hc0;have HB := am (Below.refl w.heap.size w);have H := h;unfold b_times.f at H;clear h;obtain ⟨c4,H⟩ := iN H;have bM := eq_true c4;have bN : decide (0 ≤ wrap64 ((l0.length : Int) + 1)) = true := decide_eq_true c4;obtain ⟨c5,H⟩ := iN H;have bO := eq_true c5;have bP : decide ((wrap64 ((l0.length : Int) + 1) : Int).toNat ≤ 70368744177664) = true := decide_eq_true c5;obtain ⟨aW,aI⟩ : ∃ y_ : List Int,y_ = (List.replicate 0 0) := ⟨_,rfl⟩;replace H : (b_times.l0 k a1 aW (IntKind.u64.wrap (a2)) l0 (l0.length : Int) 0) = some r := pI aI H;have aV := am aI;clear aI;have H' := am H;clear H;go_enter Tryz.func54,Tryz.ntmps54;go_wp2_with (first | ((with_reducible refine zQq (N := 14) rfl ?_);refine zKN (Kd.int .u32) _ 72 rfl (N := 14) rfl 70 _ _ rfl 0 (wrap64 ((l0.length : Int) + 1)) rfl rfl Tryz.underlying70 (.int .u32 0) 4 zXO rfl (by decide) (by omega) 0 (ok := fun _ => True) (okp := fun _ => True) rfl (fun _ hk => hk) trivial (by omega) pD (Nat.le_trans (Nat.mul_le_mul_right _ (pD : (wrap64 ((l0.length : Int) + 1)).toNat ≤ 70368744177664)) (by omega)) (Below.refl _ _) (Nat.le_refl _) ?_;intro bX w6 ho7 hb hg_ hnew_;clear hg_ hnew_;(first | rw [← aV.out] at ho7 | (simp only [Int.reduceToNat] at ho7;rw [← aV.out] at ho7));have bA := am (Kd.zQr (Kd.zYq (M := fun k_ => (w.heap.size ≤ k_)) ho7 (zQa pB) (fun k_ h_ => h_)) (zQa pB));replace HB := bS hb;clear hb ho7))
 go_loopg [7,8,19] k (fun kq v7 v8 v19 w' => ∃ (aD : List Int) (aC : Int) (aA : Int),v8 = .int .u64 aC ∧ v19 = .int .i64 aA ∧ Aside0 (b_times.l0 kq a1 aD aC l0 (l0.length : Int) aA = some r) ∧ Aside0 (kq ≤ k) ∧ Aside0 (Kd.R (Kd.int .u32) 72 w' w.heap.size (fun k_ => (w.heap.size ≤ k_)) v7 aD) ∧ Aside0 (Below w.heap.size w w'))
 case atStart => exact ⟨(aW),(IntKind.u64.wrap (a2)),(0),pS,pS,H',⟨Nat.le_refl _⟩,⟨by (with_reducible repeat (first | apply Kd.R_alloc | apply Kd.zQp | apply Kd.zQs));exact Kd.zQx bA.out (fun _ hk => hk.1)⟩,⟨pB⟩⟩
 case round =>
  clear H';(try clear p2);(try clear c4);(try clear bM);(try clear bN);(try clear c5);(try clear bO);(try clear bP);(try clear p6);obtain ⟨aD,aC,aA,rfl,rfl,HA,bI,aJ,HB⟩ := hrel
  cases gk with
  | zero => exact absurd HA.out (by simp [b_times.l0])
  | succ k1 =>
   have H := HA.out;clear HA;simp only [b_times.l0] at H;rcases iT H with ⟨c8,H⟩ | ⟨c8,H⟩
   ·have bQ : decide (aA < (l0.length : Int)) = true := decide_eq_true c8;clear c8;obtain ⟨c9,H⟩ := iN H;have bY : decide (0 ≤ aA) = true := decide_eq_true c9;clear c9;obtain ⟨bJ,H⟩ := iN H;have bW : decide (aA < (l0.length : Int)) = true := decide_eq_true bJ;clear bJ;obtain ⟨bK,H⟩ := iN H;have bB := am bK;clear bK;obtain ⟨aX,aK⟩ : ∃ y_ : List Int,y_ = (aD ++ [(IntKind.u64.wrap (aC + (IntKind.u64.wrap ((IntKind.u64.wrap (rd l0 aA)) * (IntKind.u64.wrap (a1)))))) % 4294967296]) := ⟨_,rfl⟩;replace H : (b_times.l0 k1 a1 aX ((IntKind.u64.wrap (aC + (IntKind.u64.wrap ((IntKind.u64.wrap (rd l0 aA)) * (IntKind.u64.wrap (a1)))))) / 4294967296) l0 (l0.length : Int) (wrap64 (aA + 1))) = some r := pI aK H;have bC := am aK;clear aK;have H' := am H;clear H;have aQ : 0 ≤ (aA : Int) := pD;have aT : aA < (l0.length : Int) := pD;obtain ⟨ad137,e137,aH⟩ := Kd.zXi HR0.out aA aQ aT
    cases e137
    replace aH := (HB.out.cell (World.block_lt_of_cell? w _ aH)).trans aH;replace aQ := eq_true aQ;replace aT := eq_true aT;go_wp2_with (first | ((with_reducible refine zQu (b := .append) (xs := #[.tmp 30,.tmp 33]) rfl ?_);at_builtin;refine Kd.zQS (Kd.int .u32) (w0 := w) w.heap.size rfl (.tmp 30) (.tmp 33) 70 72 (.int .u32 0) 4 rfl Tryz.underlying70 zXO rfl (by decide) (by omega) u7 aD ((IntKind.u64.wrap (aC + (IntKind.u64.wrap ((IntKind.u64.wrap (rd l0 aA)) * (IntKind.u64.wrap (a1)))))) % 4294967296) [.int .u32 ((IntKind.u64.wrap (aC + (IntKind.u64.wrap ((IntKind.u64.wrap (rd l0 aA)) * (IntKind.u64.wrap (a1)))))) % 4294967296)] (fun k_ => (w.heap.size ≤ k_)) (fun _ => False) rfl rfl ?aP (fun _ hk => hk.elim) ?aF ?aO ?aB ?aS ?aL ?_;(case aP => exact rfl);(case aB => exact pB);(case aF => exact (fun k_ hk => (Nat.le_trans (zQa pB) hk)));(case aO => exact (pR aJ.out));(case aS => exact (zQa pB));(case aL => have := bB.out;omega);intro bZ cO ho hb hg hat;rw [← bC.out] at ho;replace HB := am (hb);have bE := am (ho);clear aJ;clear ho hb hg hat))
    go_roundg k1
    case measure => have := bI.out;omega
    case rel => exact ⟨(aX),((IntKind.u64.wrap (aC + (IntKind.u64.wrap ((IntKind.u64.wrap (rd l0 aA)) * (IntKind.u64.wrap (a1)))))) / 4294967296),(wrap64 (aA + 1)),pS,pS,H',⟨by have := bI.out;omega⟩,⟨by (with_reducible repeat (first | apply Kd.R_alloc | apply Kd.zQp | apply Kd.zQs));exact bE.out⟩,⟨pB⟩⟩
   ·have bQ : decide (aA < (l0.length : Int)) = false := decide_eq_false c8;clear c8;obtain ⟨bL,H⟩ := iN H;have bF := am bL;clear bL;obtain ⟨aM,aN⟩ : ∃ y_ : List Int,y_ = (aD ++ [(aC) % 4294967296]) := ⟨_,rfl⟩;replace H : ((b_trim.f k1 aM).bind fun aU => (some aU)) = some r := pI aN H;have bG := am aN;clear aN;obtain ⟨aU,bV,H⟩ := oB H;(try dsimp only at H);obtain rfl := Option.some.inj H;go_wp2_with (first | ((with_reducible refine zQu (b := .append) (xs := #[.tmp 38,.tmp 41]) rfl ?_);at_builtin;refine Kd.zQS (Kd.int .u32) (w0 := w) w.heap.size rfl (.tmp 38) (.tmp 41) 70 72 (.int .u32 0) 4 rfl Tryz.underlying70 zXO rfl (by decide) (by omega) u7 aD ((aC) % 4294967296) [.int .u32 ((aC) % 4294967296)] (fun k_ => (w.heap.size ≤ k_)) (fun _ => False) rfl rfl ?aP (fun _ hk => hk.elim) ?aF ?aO ?aB ?aS ?aL ?_;(case aP => exact rfl);(case aB => exact pB);(case aF => exact (fun k_ hk => (Nat.le_trans (zQa pB) hk)));(case aO => exact (pR aJ.out));(case aS => exact (zQa pB));(case aL => have := bF.out;omega);intro cB cZ ho hb hg hat;rw [← bG.out] at ho;replace HB := am (hb);have aG := am (ho);clear aJ;clear ho hb hg hat;obtain ⟨aY,aZ,bT⟩ := Kd.zQv aG.out;subst bT) | ((with_reducible refine zQb (f := 85) rfl ?_);refine zQh (some 43) rfl rfl Tryz.func85 (by kernel_rfl) rfl #[.slice aY aM.length aZ] rfl pM ?_;(with_reducible refine (b_trim.calls k1 (fun k_ => some k_ = (.slice aY aM.length aZ : Value).ownBlock) _ _ aM aU _ ?side1 bV.out).mono ?_);(case side1 => exact Kd.R_V (Kd.zXQ rfl (aG.out)));rintro e dA ⟨cK,rfl,ho0,hb⟩;refine ⟨_,rfl,?_⟩;have bH := am (Kd.zQM (Kd.zQi (ok' := fun k_ => (w.heap.size ≤ k_)) ho0 (fun k_ hk_ => Or.elim hk_ (fun hs_ => ((aG.out).1 k_ hs_.symm)) (fun hn_ => (Nat.le_trans (zQa pB) hn_)))) (zQa pB));replace aG := am (Kd.zQD (pR aG.out) hb);replace HB := bS hb;(try clear hb);(try clear ho0)))
    go_ret
    exact ⟨_,pE,by (with_reducible repeat (first | apply Kd.V_alloc | apply Kd.zQk | apply Kd.zQm));exact bH.out,pB⟩
def flo_shifted.f (a0 : Int) (a1 : Bool) (a2 : Int) : Option (Int) := if 0 ≤ a2 then (if a2 > 64 then (some 0) else (if 0 ≤ (wrap64 (a2 - 1)) then (if (Go.bits .and .u64 a0 (IntKind.u64.wrap ((shl .u64 1 a2) - 1))) > (shl .u64 1 (wrap64 (a2 - 1))) then (some (IntKind.u64.wrap ((shr .u64 a0 a2) + 1))) else (if (Go.bits .and .u64 a0 (IntKind.u64.wrap ((shl .u64 1 a2) - 1))) = (shl .u64 1 (wrap64 (a2 - 1))) then (if a1 = true then (some (IntKind.u64.wrap ((shr .u64 a0 a2) + 1))) else (if (Go.bits .and .u64 (shr .u64 a0 a2) 1) = 1 then (some (IntKind.u64.wrap ((shr .u64 a0 a2) + 1))) else (some (shr .u64 a0 a2)))) else (some (shr .u64 a0 a2)))) else (none))) else (none)
theorem flo_shifted.calls (a0 : Int) (a1 : Bool) (a2 : Int) (r : Int) (w : World) (h : flo_shifted.f a0 a1 a2 = some r) :
  Calls Tryz.prog 87 #[.int .u64 a0,.bool a1,.int .i64 a2] w fun e w' => e = .returned (.int .u64 r) ∧ Drawn0 w w' := by
 have H := h;unfold flo_shifted.f at H;clear h;obtain ⟨c4,H⟩ := iN H;have bF := eq_true c4;have bG : decide (0 ≤ a2) = true := decide_eq_true c4;clear c4;obtain ⟨aA,aH⟩ : ∃ j_ : Int,(shr .u64 a0 a2) = j_ := ⟨_,rfl⟩;(replace H : (if a2 > 64 then (some 0) else (if 0 ≤ (wrap64 (a2 - 1)) then (if (Go.bits .and .u64 a0 (IntKind.u64.wrap ((shl .u64 1 a2) - 1))) > (shl .u64 1 (wrap64 (a2 - 1))) then (some (IntKind.u64.wrap ((aA) + 1))) else (if (Go.bits .and .u64 a0 (IntKind.u64.wrap ((shl .u64 1 a2) - 1))) = (shl .u64 1 (wrap64 (a2 - 1))) then (if a1 = true then (some (IntKind.u64.wrap ((aA) + 1))) else (if (Go.bits .and .u64 (aA) 1) = 1 then (some (IntKind.u64.wrap ((aA) + 1))) else (some aA))) else (some aA))) else (none))) = some r := by first | (rw [aH] at H;exact H) | (simp only [aH] at H ⊢;exact H));have hji5_ : (a0 / 2 ^ min a2.toNat 64) = aA := aH;have hji5z : a2 ≤ 64 → (a0 / 2 ^ a2.toNat) = aA := zJe aH;rcases iT H with ⟨c6,H⟩ | ⟨c6,H⟩
 ·have bA : decide (64 < a2) = true := decide_eq_true c6;clear c6;obtain rfl := Option.some.inj H;go_enter Tryz.func87,Tryz.ntmps87;go_wp2;repeat (go_quiet (fail);try go_wp2)
  go_ret
  exact ⟨by first | rfl | (simp;done) | (simp only [← aH] <;> (first | rfl | simp)) | (simp [*];done),pQ0⟩
 ·have bA : decide (64 < a2) = false := decide_eq_false c6;clear c6;have bH := eq_true (pD : 0 ≤ a2);obtain ⟨aD,aI⟩ : ∃ j_ : Int,(shl .u64 1 a2) = j_ := ⟨_,rfl⟩;(replace H : (if 0 ≤ (wrap64 (a2 - 1)) then (if (Go.bits .and .u64 a0 (IntKind.u64.wrap ((aD) - 1))) > (shl .u64 1 (wrap64 (a2 - 1))) then (some (IntKind.u64.wrap ((aA) + 1))) else (if (Go.bits .and .u64 a0 (IntKind.u64.wrap ((aD) - 1))) = (shl .u64 1 (wrap64 (a2 - 1))) then (if a1 = true then (some (IntKind.u64.wrap ((aA) + 1))) else (if (Go.bits .and .u64 (aA) 1) = 1 then (some (IntKind.u64.wrap ((aA) + 1))) else (some aA))) else (some aA))) else (none)) = some r := by first | (rw [aI] at H;exact H) | (simp only [aI] at H ⊢;exact H));have hji8_ : (IntKind.u64.wrap (1 * 2 ^ min a2.toNat 64)) = aD := aI;have hji8z : a2 ≤ 64 → (IntKind.u64.wrap (1 * 2 ^ a2.toNat)) = aD := zXN aI;(have hji8u : (IntKind.u64.wrap (2 ^ min a2.toNat 64)) = aD := by have h_ := hji8_;rw [Int.one_mul] at h_;exact h_);(have hji8v : a2 ≤ 64 → (IntKind.u64.wrap (2 ^ a2.toNat)) = aD := fun hle_ => by have h_ := hji8z hle_;rw [Int.one_mul] at h_;exact h_);obtain ⟨aJ,aK⟩ : ∃ j_ : Int,(wrap64 (a2 - 1)) = j_ := ⟨_,rfl⟩;(replace H : (if 0 ≤ (aJ) then (if (Go.bits .and .u64 a0 (IntKind.u64.wrap ((aD) - 1))) > (shl .u64 1 (aJ)) then (some (IntKind.u64.wrap ((aA) + 1))) else (if (Go.bits .and .u64 a0 (IntKind.u64.wrap ((aD) - 1))) = (shl .u64 1 (aJ)) then (if a1 = true then (some (IntKind.u64.wrap ((aA) + 1))) else (if (Go.bits .and .u64 (aA) 1) = 1 then (some (IntKind.u64.wrap ((aA) + 1))) else (some aA))) else (some aA))) else (none)) = some r := by first | (rw [aK] at H;exact H) | (simp only [aK] at H ⊢;exact H));have bB : (IntKind.i64.wrap (a2 - 1)) = aJ := (i64_w _).trans aK;obtain ⟨aU,H⟩ := iN H;have bC := eq_true aU;have bE : decide (0 ≤ (aJ)) = true := decide_eq_true aU;clear aU;obtain ⟨aC,aG⟩ : ∃ j_ : Int,(shl .u64 1 (aJ)) = j_ := ⟨_,rfl⟩;(replace H : (if (Go.bits .and .u64 a0 (IntKind.u64.wrap ((aD) - 1))) > (aC) then (some (IntKind.u64.wrap ((aA) + 1))) else (if (Go.bits .and .u64 a0 (IntKind.u64.wrap ((aD) - 1))) = (aC) then (if a1 = true then (some (IntKind.u64.wrap ((aA) + 1))) else (if (Go.bits .and .u64 (aA) 1) = 1 then (some (IntKind.u64.wrap ((aA) + 1))) else (some aA))) else (some aA))) = some r := by first | (rw [aG] at H;exact H) | (simp only [aG] at H ⊢;exact H));have hji11_ : (IntKind.u64.wrap (1 * 2 ^ min (aJ).toNat 64)) = aC := aG;have hji11z : (aJ) ≤ 64 → (IntKind.u64.wrap (1 * 2 ^ (aJ).toNat)) = aC := zXN aG;(have hji11u : (IntKind.u64.wrap (2 ^ min (aJ).toNat 64)) = aC := by have h_ := hji11_;rw [Int.one_mul] at h_;exact h_);(have hji11v : (aJ) ≤ 64 → (IntKind.u64.wrap (2 ^ (aJ).toNat)) = aC := fun hle_ => by have h_ := hji11z hle_;rw [Int.one_mul] at h_;exact h_);rcases iT H with ⟨aQ,H⟩ | ⟨aQ,H⟩
  ·have aV : decide ((aC) < (Go.bits .and .u64 a0 (IntKind.u64.wrap ((aD) - 1)))) = true := decide_eq_true aQ;clear aQ;obtain rfl := Option.some.inj H;go_enter Tryz.func87,Tryz.ntmps87;go_wp2;repeat (go_quiet (fail);try go_wp2)
   go_ret
   exact ⟨by first | rfl | (simp;done) | (simp only [← aH,← aI,← aK,← aG] <;> (first | rfl | simp)) | (simp [*];done),pQ0⟩
  ·have aV : decide ((aC) < (Go.bits .and .u64 a0 (IntKind.u64.wrap ((aD) - 1)))) = false := decide_eq_false aQ;clear aQ;rcases iT H with ⟨aM,H⟩ | ⟨aM,H⟩
   ·have aW : ((Go.bits .and .u64 a0 (IntKind.u64.wrap ((aD) - 1))) == (aC)) = true := beq_iff_eq.mpr aM;have aX : ((Go.bits .and .u64 a0 (IntKind.u64.wrap ((aD) - 1))) != (aC)) = false := bne_eq_false_iff_eq.mpr aM;clear aM;by_cases aT : a1 = true
    ·subst aT;rw [if_pos rfl] at H;obtain rfl := Option.some.inj H;go_enter Tryz.func87,Tryz.ntmps87;go_wp2;repeat (go_quiet (fail);try go_wp2)
     go_ret
     exact ⟨by first | rfl | (simp;done) | (simp only [← aH,← aI,← aK,← aG] <;> (first | rfl | simp)) | (simp [*];done),pQ0⟩
    ·replace aT := Bool.eq_false_iff.mpr aT;subst aT;rw [if_neg (show ¬ (false = true) by decide)] at H;rcases iT H with ⟨aN,H⟩ | ⟨aN,H⟩
     ·have aY : ((Go.bits .and .u64 (aA) 1) == 1) = true := beq_iff_eq.mpr aN;have aZ : ((Go.bits .and .u64 (aA) 1) != 1) = false := bne_eq_false_iff_eq.mpr aN;clear aN;obtain rfl := Option.some.inj H;go_enter Tryz.func87,Tryz.ntmps87;go_wp2;repeat (go_quiet (fail);try go_wp2)
      go_ret
      exact ⟨by first | rfl | (simp;done) | (simp only [← aH,← aI,← aK,← aG] <;> (first | rfl | simp)) | (simp [*];done),pQ0⟩
     ·have aY : ((Go.bits .and .u64 (aA) 1) == 1) = false := beq_eq_false_iff_ne.mpr aN;have aZ : ((Go.bits .and .u64 (aA) 1) != 1) = true := bne_iff_ne.mpr aN;obtain rfl := Option.some.inj H;go_enter Tryz.func87,Tryz.ntmps87;go_wp2;repeat (go_quiet (fail);try go_wp2)
      go_ret
      exact ⟨by first | rfl | (simp;done) | (simp only [← aH,← aI,← aK,← aG] <;> (first | rfl | simp)) | (simp [*];done),pQ0⟩
   ·have aW : ((Go.bits .and .u64 a0 (IntKind.u64.wrap ((aD) - 1))) == (aC)) = false := beq_eq_false_iff_ne.mpr aM;have aX : ((Go.bits .and .u64 a0 (IntKind.u64.wrap ((aD) - 1))) != (aC)) = true := bne_iff_ne.mpr aM;obtain rfl := Option.some.inj H;go_enter Tryz.func87,Tryz.ntmps87;go_wp2;repeat (go_quiet (fail);try go_wp2)
    go_ret
    exact ⟨by first | rfl | (simp;done) | (simp only [← aH,← aI,← aK,← aG] <;> (first | rfl | simp)) | (simp [*];done),pQ0⟩
mutual
def flo_Make.j0 : Nat → Int → Int → Bool → Int → Option (Int)
 | 0,_,_,_,_ => none
 | k + 1,x1,x2,x3,x9 => if x2 = 0 then (if x3 = true then (flo_Make.j1 k ((mn (mx x1 (-1048576)) 1048576) - 1) 1 false x9) else (some x9)) else (flo_Make.j1 k (mn (mx x1 (-1048576)) 1048576) x2 x3 x9)
def flo_Make.j1 : Nat → Int → Int → Bool → Int → Option (Int)
 | 0,_,_,_,_ => none
 | k + 1,x1,x2,x3,x9 => (bits_Len64.f x2).bind fun t147 => (if (mx (wrap64 ((wrap64 (t147 - 52)) - 1)) (wrap64 ((-1074) - x1))) > 0 then ((flo_shifted.f x2 x3 (mx (wrap64 ((wrap64 (t147 - 52)) - 1)) (wrap64 ((-1074) - x1)))).bind fun t148 => (flo_Make.j2 k x1 t148 x9 (mx (wrap64 ((wrap64 (t147 - 52)) - 1)) (wrap64 ((-1074) - x1))))) else (if (mx (wrap64 ((wrap64 (t147 - 52)) - 1)) (wrap64 ((-1074) - x1))) = 0 then (if x3 = true then (flo_Make.j2 k x1 (IntKind.u64.wrap (x2 + (Go.bits .and .u64 x2 1))) x9 (mx (wrap64 ((wrap64 (t147 - 52)) - 1)) (wrap64 ((-1074) - x1)))) else (flo_Make.j2 k x1 x2 x9 (mx (wrap64 ((wrap64 (t147 - 52)) - 1)) (wrap64 ((-1074) - x1))))) else (if 0 ≤ (wrap64 (-(mx (wrap64 ((wrap64 (t147 - 52)) - 1)) (wrap64 ((-1074) - x1))))) then (if x3 = true then (if 0 ≤ (wrap64 ((wrap64 (-(mx (wrap64 ((wrap64 (t147 - 52)) - 1)) (wrap64 ((-1074) - x1))))) - 1)) then (flo_Make.j2 k x1 (Go.bits .or .u64 (shl .u64 x2 (wrap64 (-(mx (wrap64 ((wrap64 (t147 - 52)) - 1)) (wrap64 ((-1074) - x1)))))) (shl .u64 1 (wrap64 ((wrap64 (-(mx (wrap64 ((wrap64 (t147 - 52)) - 1)) (wrap64 ((-1074) - x1))))) - 1)))) x9 (mx (wrap64 ((wrap64 (t147 - 52)) - 1)) (wrap64 ((-1074) - x1)))) else (none)) else (flo_Make.j2 k x1 (shl .u64 x2 (wrap64 (-(mx (wrap64 ((wrap64 (t147 - 52)) - 1)) (wrap64 ((-1074) - x1)))))) x9 (mx (wrap64 ((wrap64 (t147 - 52)) - 1)) (wrap64 ((-1074) - x1))))) else (none))))
def flo_Make.j2 : Nat → Int → Int → Int → Int → Option (Int)
 | 0,_,_,_,_ => none
 | k + 1,x1,x2,x9,x10 => if x2 = 9007199254740992 then (flo_Make.j3 k (wrap64 ((wrap64 (x1 + x10)) + 1)) 4503599627370496 x9) else (flo_Make.j3 k (wrap64 (x1 + x10)) x2 x9)
def flo_Make.j3 : Nat → Int → Int → Int → Option (Int)
 | 0,_,_,_ => none
 | k + 1,x1,x2,x9 => if x2 = 0 then (some x9) else (if x1 > 971 then (some (Go.bits .or .u64 x9 9218868437227405312)) else (if x2 < 4503599627370496 then (some (Go.bits .or .u64 x9 x2)) else (some (Go.bits .or .u64 (Go.bits .or .u64 x9 (IntKind.u64.wrap ((IntKind.u64.wrap (wrap64 (x1 + 1075))) * 4503599627370496))) (Go.bits .and .u64 x2 4503599627370495)))))
end
def flo_Make.f (k : Nat) (a0 : Bool) (a1 : Int) (a2 : Int) (a3 : Bool) : Option (Int) := if a0 = true then (flo_Make.j0 k a1 a2 a3 9223372036854775808) else (flo_Make.j0 k a1 a2 a3 0)
theorem flo_Make.mono_l : ∀ k,(∀ y0 y1 y2 y3,LeO (flo_Make.j0 k y0 y1 y2 y3) (flo_Make.j0 (k + 1) y0 y1 y2 y3)) ∧ (∀ y0 y1 y2 y3,LeO (flo_Make.j1 k y0 y1 y2 y3) (flo_Make.j1 (k + 1) y0 y1 y2 y3)) ∧ (∀ y0 y1 y2 y3,LeO (flo_Make.j2 k y0 y1 y2 y3) (flo_Make.j2 (k + 1) y0 y1 y2 y3)) ∧ (∀ y0 y1 y2,LeO (flo_Make.j3 k y0 y1 y2) (flo_Make.j3 (k + 1) y0 y1 y2))
 | 0 => ⟨fun _ _ _ _ r h => by simp [flo_Make.j0] at h,fun _ _ _ _ r h => by simp [flo_Make.j1] at h,fun _ _ _ _ r h => by simp [flo_Make.j2] at h,fun _ _ _ r h => by simp [flo_Make.j3] at h⟩
 | k + 1 => by
  obtain ⟨ih0,ih1,ih2,ih3⟩ := flo_Make.mono_l k;refine ⟨?_,?_,?_,?_⟩
  all_goals intros
  all_goals first | unfold flo_Make.j0 | unfold flo_Make.j1 | unfold flo_Make.j2 | unfold flo_Make.j3
  all_goals repeat' first
   | (with_reducible exact ih0 _ _ _ _)
   | (with_reducible exact ih1 _ _ _ _)
   | (with_reducible exact ih2 _ _ _ _)
   | (with_reducible exact ih3 _ _ _)
   | (with_reducible exact LeO.refl _)
   | (with_reducible exact LeO.none _)
   | (with_reducible refine LeO.ite ?_ ?_)
   | (with_reducible refine LeO.bind ?_ (fun _ => ?_))
   | exact ih0 _ _ _ _
   | exact ih1 _ _ _ _
   | exact ih2 _ _ _ _
   | exact ih3 _ _ _
   | exact LeO.none _
   | refine LeO.ite ?_ ?_
   | refine LeO.bind ?_ (fun _ => ?_)
theorem flo_Make.mono : ∀ a0 a1 a2 a3 k,LeO (flo_Make.f k a0 a1 a2 a3) (flo_Make.f (k + 1) a0 a1 a2 a3) := by
 intro a0 a1 a2 a3 k;obtain ⟨ih0,ih1,ih2,ih3⟩ := flo_Make.mono_l k;unfold flo_Make.f
 repeat' first
   | (with_reducible exact ih0 _ _ _ _)
   | (with_reducible exact ih1 _ _ _ _)
   | (with_reducible exact ih2 _ _ _ _)
   | (with_reducible exact ih3 _ _ _)
   | (with_reducible exact LeO.refl _)
   | (with_reducible exact LeO.none _)
   | (with_reducible refine LeO.ite ?_ ?_)
   | (with_reducible refine LeO.bind ?_ (fun _ => ?_))
   | exact ih0 _ _ _ _
   | exact ih1 _ _ _ _
   | exact ih2 _ _ _ _
   | exact ih3 _ _ _
   | exact LeO.none _
   | refine LeO.ite ?_ ?_
   | refine LeO.bind ?_ (fun _ => ?_)
theorem flo_Make.calls (k : Nat) (a0 : Bool) (a1 : Int) (a2 : Int) (a3 : Bool) (r : Int) (w : World) (h : flo_Make.f k a0 a1 a2 a3 = some r) :
  Calls Tryz.prog 55 #[.bool a0,.int .i64 a1,.int .u64 a2,.bool a3] w fun e w' => e = .returned (.int .u64 r) ∧ Below w.heap.size w w' := by
 have HB := am (Below.refl w.heap.size w);have H : (if a0 = true then (flo_Make.j0 k a1 a2 a3 9223372036854775808) else (flo_Make.j0 k a1 a2 a3 0)) = some r := h;clear h;have HC5 := am H;clear H;go_enter Tryz.func55,Tryz.ntmps55
 go_upto_if 11 with (fail)
 go_cut [9] (fun v9 wc => ∃ (kq : Nat) (aC : Int),v9 = .int .u64 aC ∧ Aside0 (flo_Make.j0 kq a1 a2 a3 aC = some r) ∧ Aside0 (kq ≤ k) ∧ Aside0 (Below w.heap.size w wc))
 case first =>
  have H := HC5.out;clear HC5;by_cases c6 : a0 = true
  ·subst c6;rw [if_pos rfl] at H;have H' := am H;clear H;go_wp2;go_meet
   case rel => exact ⟨_,(9223372036854775808),pS,H',⟨by first | omega | exact Nat.le_refl _⟩,⟨pB⟩⟩
  ·replace c6 := Bool.eq_false_iff.mpr c6;subst c6;rw [if_neg (show ¬ (false = true) by decide)] at H;have H' := am H;clear H;go_wp2;go_meet
   case rel => exact ⟨_,(0),pS,H',⟨by first | omega | exact Nat.le_refl _⟩,⟨pB⟩⟩
 case rest =>
  clear HC5;(try clear p2);(try clear c5);(try clear c6);obtain ⟨kq,aC,rfl,HA,bC,HB⟩ := hcut
  cases kq with
  | zero => exact absurd HA.out (by simp [flo_Make.j0])
  | succ cK =>
   have H := HA.out;clear HA;simp only [flo_Make.j0] at H;obtain ⟨bO,aX⟩ : ∃ j_ : Int,(mx a1 (-1048576)) = j_ := ⟨_,rfl⟩;(replace H : (if a2 = 0 then (if a3 = true then (flo_Make.j1 cK ((mn (bO) 1048576) - 1) 1 false aC) else (some aC)) else (flo_Make.j1 cK (mn (bO) 1048576) a2 a3 aC)) = some r := by first | (rw [aX] at H;exact H) | (simp only [aX] at H ⊢;exact H));have hji7_ : (if a1 < (-1048576) then (-1048576) else a1) = bO := aX;obtain ⟨cO,aU⟩ : ∃ j_ : Int,(mn (bO) 1048576) = j_ := ⟨_,rfl⟩;(replace H : (if a2 = 0 then (if a3 = true then (flo_Make.j1 cK ((cO) - 1) 1 false aC) else (some aC)) else (flo_Make.j1 cK cO a2 a3 aC)) = some r := by first | (rw [aU] at H;exact H) | (simp only [aU] at H ⊢;exact H));have hji8_ : (if 1048576 < (bO) then 1048576 else (bO)) = cO := aU;have HC9 := am H;clear H
   go_upto_if 16 with (fail)
   go_cut [1,2,3] (fun v1 v2 v3 wc => ∃ (kq : Nat) (aG : Int) (aD : Int) (aJ : Bool),v1 = .int .i64 aG ∧ v2 = .int .u64 aD ∧ v3 = .bool aJ ∧ Aside0 (flo_Make.j1 kq aG aD aJ aC = some r) ∧ Aside0 (kq ≤ cK) ∧ Aside0 (Below w.heap.size w wc))
   case first =>
    have H := HC9.out;clear HC9;rcases iT H with ⟨bE,H⟩ | ⟨bE,H⟩
    ·have aN : (a2 == 0) = true := beq_iff_eq.mpr bE;have aQ : (a2 != 0) = false := bne_eq_false_iff_eq.mpr bE;clear bE;(first | rw [aN] | (simp only [i64_w,i32_w];rw [aN]) | rw [aQ] | (simp only [i64_w,i32_w];rw [aQ]) | skip);by_cases bK : a3 = true
     ·subst bK;rw [if_pos rfl] at H;have H' := am H;clear H;go_wp2;go_meet
      case rel => exact ⟨_,((cO) - 1),(1),(false),(by first | rfl | (simp;done) | (simp only [← aU] <;> (first | rfl | simp)) | (simp [*];done)),pS,pS,H',⟨by have := bC.out;first | omega | exact Nat.le_refl _⟩,⟨pB⟩⟩
     ·replace bK := Bool.eq_false_iff.mpr bK;subst bK;rw [if_neg (show ¬ (false = true) by decide)] at H;obtain rfl := Option.some.inj H;go_wp2
      go_ret
      exact ⟨by first | rfl | (simp [errW_none,errW_some] <;> rfl) | (simp only [← aX,← aU];first | rfl | (simp [errW_none,errW_some] <;> rfl)) | (simp [*,errW_none,errW_some] <;> rfl),pB⟩
    ·have aN : (a2 == 0) = false := beq_eq_false_iff_ne.mpr bE;have aQ : (a2 != 0) = true := bne_iff_ne.mpr bE;(first | rw [aN] | (simp only [i64_w,i32_w];rw [aN]) | rw [aQ] | (simp only [i64_w,i32_w];rw [aQ]) | skip);have H' := am H;clear H;go_wp2;go_meet
     case rel => exact ⟨_,(cO),(a2),(a3),(by first | rfl | (simp;done) | (simp only [← aU] <;> (first | rfl | simp)) | (simp [*];done)),pS,pS,H',⟨by have := bC.out;first | omega | exact Nat.le_refl _⟩,⟨pB⟩⟩
   case rest =>
    clear HC9;(try clear c1);(try clear p2);(try clear c5);(try clear c6);(try clear bE);(try clear aN);(try clear aQ);(try clear bK);(try clear p2);obtain ⟨kq,aG,aD,aJ,rfl,rfl,rfl,HA,bL,HB⟩ := hcut
    cases kq with
    | zero => exact absurd HA.out (by simp [flo_Make.j1])
    | succ aW =>
     have H := HA.out;clear HA;simp only [flo_Make.j1] at H;obtain ⟨bV,dM,H⟩ := oB H;(try dsimp only at H);obtain ⟨aA,aI⟩ : ∃ j_ : Int,(mx (wrap64 ((wrap64 (bV - 52)) - 1)) (wrap64 ((-1074) - aG))) = j_ := ⟨_,rfl⟩;(replace H : (if (aA) > 0 then ((flo_shifted.f aD aJ (aA)).bind fun bW => (flo_Make.j2 aW aG bW aC aA)) else (if (aA) = 0 then (if aJ = true then (flo_Make.j2 aW aG (IntKind.u64.wrap (aD + (Go.bits .and .u64 aD 1))) aC aA) else (flo_Make.j2 aW aG aD aC aA)) else (if 0 ≤ (wrap64 (-(aA))) then (if aJ = true then (if 0 ≤ (wrap64 ((wrap64 (-(aA))) - 1)) then (flo_Make.j2 aW aG (Go.bits .or .u64 (shl .u64 aD (wrap64 (-(aA)))) (shl .u64 1 (wrap64 ((wrap64 (-(aA))) - 1)))) aC aA) else (none)) else (flo_Make.j2 aW aG (shl .u64 aD (wrap64 (-(aA)))) aC aA)) else (none)))) = some r := by first | (rw [aI] at H;exact H) | (simp only [aI] at H ⊢;exact H));(try rw [aI] at dM);have hji13_ : (if (wrap64 ((wrap64 (bV - 52)) - 1)) < (wrap64 ((-1074) - aG)) then (wrap64 ((-1074) - aG)) else (wrap64 ((wrap64 (bV - 52)) - 1))) = aA := aI;have HC14 := am H;clear H
     go_upto_block 0 with (first | ((with_reducible refine zQb (f := 86) rfl ?_);refine zQh (some 23) rfl rfl Tryz.func86 (by kernel_rfl) rfl #[.int .u64 aD] rfl pM ?_;(with_reducible refine (bits_Len64.calls aD bV _ dM.out).mono ?_);rintro e w' ⟨rfl,⟨nd,rfl⟩⟩;refine ⟨_,rfl,?_⟩))
     (try simp only [Act.put,List.setIfInBounds_toArray,List.set_cons_zero,List.set_cons_succ])
     go_cut [2] (fun v2 wc => ∃ (kq : Nat) (aT : Int),v2 = .int .u64 aT ∧ Aside0 (flo_Make.j2 kq aG aT aC aA = some r) ∧ Aside0 (kq ≤ aW) ∧ Aside0 (Below w.heap.size w wc))
     case first =>
      have H := HC14.out;clear HC14;rcases iT H with ⟨bM,H⟩ | ⟨bM,H⟩
      ·have aV : decide (0 < (aA)) = true := decide_eq_true bM;clear bM;(first | rw [aV] | (simp only [i64_w,i32_w];rw [aV]) | rw [bF] | (simp only [i64_w,i32_w];rw [bF]) | skip);obtain ⟨bW,dO,H⟩ := oB H;(try dsimp only at H);have H' := am H;clear H;(go_wp2_with (first | ((with_reducible refine zQb (f := 87) rfl ?_);refine zQh (some 46) rfl rfl Tryz.func87 (by kernel_rfl) rfl #[.int .u64 aD,.bool aJ,.int .i64 aA] rfl (by (try simp only [List.map_toArray,List.map_cons,List.map_nil]);first | done | (simp only [aI];rfl) | rfl | (simp only [List.length_drop,List.length_take];rfl)) ?_;(with_reducible refine (flo_shifted.calls aD aJ aA bW _ dO.out).mono ?_);rintro e w' ⟨rfl,⟨nd,rfl⟩⟩;refine ⟨_,rfl,?_⟩)));go_meet
       case rel => exact ⟨_,(bW),pS,H',⟨by have := bC.out;have := bL.out;first | omega | exact Nat.le_refl _⟩,⟨pB⟩⟩
      ·have aV : decide (0 < (aA)) = false := decide_eq_false bM;clear bM;(first | rw [aV] | (simp only [i64_w,i32_w];rw [aV]) | rw [bF] | (simp only [i64_w,i32_w];rw [bF]) | skip);rcases iT H with ⟨bJ,H⟩ | ⟨bJ,H⟩
       ·have bX : ((aA) == 0) = true := beq_iff_eq.mpr bJ;have bY : ((aA) != 0) = false := bne_eq_false_iff_eq.mpr bJ;clear bJ;by_cases bP : aJ = true
        ·subst bP;rw [if_pos rfl] at H;have H' := am H;clear H;go_wp2;go_meet
         case rel => exact ⟨_,(IntKind.u64.wrap (aD + (Go.bits .and .u64 aD 1))),pS,H',⟨by have := bC.out;have := bL.out;first | omega | exact Nat.le_refl _⟩,⟨pB⟩⟩
        ·replace bP := Bool.eq_false_iff.mpr bP;subst bP;rw [if_neg (show ¬ (false = true) by decide)] at H;have H' := am H;clear H;go_wp2;go_meet
         case rel => exact ⟨_,(aD),pS,H',⟨by have := bC.out;have := bL.out;first | omega | exact Nat.le_refl _⟩,⟨pB⟩⟩
       ·have bX : ((aA) == 0) = false := beq_eq_false_iff_ne.mpr bJ;have bY : ((aA) != 0) = true := bne_iff_ne.mpr bJ;obtain ⟨aH,bZ⟩ : ∃ j_ : Int,(wrap64 (-(aA))) = j_ := ⟨_,rfl⟩;(replace H : (if 0 ≤ (aH) then (if aJ = true then (if 0 ≤ (wrap64 ((aH) - 1)) then (flo_Make.j2 aW aG (Go.bits .or .u64 (shl .u64 aD (aH)) (shl .u64 1 (wrap64 ((aH) - 1)))) aC aA) else (none)) else (flo_Make.j2 aW aG (shl .u64 aD (aH)) aC aA)) else (none)) = some r := by first | (rw [bZ] at H;exact H) | (simp only [bZ] at H ⊢;exact H));have dP : (IntKind.i64.wrap (-(aA))) = aH := (i64_w _).trans bZ;obtain ⟨cZ,H⟩ := iN H;have dD := eq_true cZ;have dE : decide (0 ≤ (aH)) = true := decide_eq_true cZ;clear cZ;obtain ⟨aY,aZ⟩ : ∃ j_ : Int,(shl .u64 aD (aH)) = j_ := ⟨_,rfl⟩;(replace H : (if aJ = true then (if 0 ≤ (wrap64 ((aH) - 1)) then (flo_Make.j2 aW aG (Go.bits .or .u64 (aY) (shl .u64 1 (wrap64 ((aH) - 1)))) aC aA) else (none)) else (flo_Make.j2 aW aG aY aC aA)) = some r := by first | (rw [aZ] at H;exact H) | (simp only [aZ] at H ⊢;exact H));have hji21_ : (IntKind.u64.wrap (aD * 2 ^ min (aH).toNat 64)) = aY := aZ;have hji21z : (aH) ≤ 64 → (IntKind.u64.wrap (aD * 2 ^ (aH).toNat)) = aY := zXN aZ;by_cases bQ : aJ = true
        ·subst bQ;rw [if_pos rfl] at H;obtain ⟨aM,cB⟩ : ∃ j_ : Int,(wrap64 ((aH) - 1)) = j_ := ⟨_,rfl⟩;(replace H : (if 0 ≤ (aM) then (flo_Make.j2 aW aG (Go.bits .or .u64 (aY) (shl .u64 1 (aM))) aC aA) else (none)) = some r := by first | (rw [cB] at H;exact H) | (simp only [cB] at H ⊢;exact H));have dQ : (IntKind.i64.wrap ((aH) - 1)) = aM := (i64_w _).trans cB;obtain ⟨dA,H⟩ := iN H;have dF := eq_true dA;have dG : decide (0 ≤ (aM)) = true := decide_eq_true dA;clear dA;obtain ⟨bI,bG⟩ : ∃ j_ : Int,(shl .u64 1 (aM)) = j_ := ⟨_,rfl⟩;(replace H : (flo_Make.j2 aW aG (Go.bits .or .u64 (aY) (bI)) aC aA) = some r := by first | (rw [bG] at H;exact H) | (simp only [bG] at H ⊢;exact H));have hji25_ : (IntKind.u64.wrap (1 * 2 ^ min (aM).toNat 64)) = bI := bG;have hji25z : (aM) ≤ 64 → (IntKind.u64.wrap (1 * 2 ^ (aM).toNat)) = bI := zXN bG;(have hji25u : (IntKind.u64.wrap (2 ^ min (aM).toNat 64)) = bI := by have h_ := hji25_;rw [Int.one_mul] at h_;exact h_);(have hji25v : (aM) ≤ 64 → (IntKind.u64.wrap (2 ^ (aM).toNat)) = bI := fun hle_ => by have h_ := hji25z hle_;rw [Int.one_mul] at h_;exact h_);have H' := am H;clear H;go_wp2;go_meet
         case rel => exact ⟨_,(Go.bits .or .u64 (aY) (bI)),(by first | rfl | (simp;done) | (simp only [← aZ,← bG] <;> (first | rfl | simp)) | (simp [*];done)),H',⟨by have := bC.out;have := bL.out;first | omega | exact Nat.le_refl _⟩,⟨pB⟩⟩
        ·replace bQ := Bool.eq_false_iff.mpr bQ;subst bQ;rw [if_neg (show ¬ (false = true) by decide)] at H;have H' := am H;clear H;go_wp2;go_meet
         case rel => exact ⟨_,(aY),(by first | rfl | (simp;done) | (simp only [← aZ] <;> (first | rfl | simp)) | (simp [*];done)),H',⟨by have := bC.out;have := bL.out;first | omega | exact Nat.le_refl _⟩,⟨pB⟩⟩
     case rest =>
      clear HC14;(try clear c1);(try clear c2);(try clear p2);(try clear c5);(try clear c6);(try clear p6);(try clear c8);(try clear bE);(try clear aN);(try clear aQ);(try clear bK);(try clear bM);(try clear aV);(try clear bF);(try clear bJ);(try clear bX);(try clear bY);(try clear bP);(try clear cZ);(try clear dD);(try clear dE);(try clear bQ);(try clear dA);(try clear dF);(try clear dG);(try clear p2);obtain ⟨kq,aT,rfl,HA,dH,HB⟩ := hcut
      cases kq with
      | zero => exact absurd HA.out (by simp [flo_Make.j2])
      | succ dN =>
       have H := HA.out;clear HA;simp only [flo_Make.j2] at H;have HC26 := am H;clear H
       go_upto_if 59 with (fail)
       go_cut [1,2] (fun v1 v2 wc => ∃ (kq : Nat) (bH : Int) (aK : Int),v1 = .int .i64 bH ∧ v2 = .int .u64 aK ∧ Aside0 (flo_Make.j3 kq bH aK aC = some r) ∧ Aside0 (kq ≤ dN) ∧ Aside0 (Below w.heap.size w wc))
       case first =>
        have H := HC26.out;clear HC26;rcases iT H with ⟨bN,H⟩ | ⟨bN,H⟩
        ·have bA : (aT == 9007199254740992) = true := beq_iff_eq.mpr bN;have bB : (aT != 9007199254740992) = false := bne_eq_false_iff_eq.mpr bN;clear bN;(first | rw [bA] | (simp only [i64_w,i32_w];rw [bA]) | rw [bB] | (simp only [i64_w,i32_w];rw [bB]) | skip);have H' := am H;clear H;go_wp2;go_meet
         case rel => exact ⟨_,(wrap64 ((wrap64 (aG + aA)) + 1)),(4503599627370496),(by first | rfl | (simp;done) | (simp only [← aI] <;> (first | rfl | simp)) | (simp [*];done)),pS,H',⟨by have := bC.out;have := bL.out;have := dH.out;first | omega | exact Nat.le_refl _⟩,⟨pB⟩⟩
        ·have bA : (aT == 9007199254740992) = false := beq_eq_false_iff_ne.mpr bN;have bB : (aT != 9007199254740992) = true := bne_iff_ne.mpr bN;(first | rw [bA] | (simp only [i64_w,i32_w];rw [bA]) | rw [bB] | (simp only [i64_w,i32_w];rw [bB]) | skip);have H' := am H;clear H;go_wp2;go_meet
         case rel => exact ⟨_,(wrap64 (aG + aA)),(aT),(by first | rfl | (simp;done) | (simp only [← aI] <;> (first | rfl | simp)) | (simp [*];done)),pS,H',⟨by have := bC.out;have := bL.out;have := dH.out;first | omega | exact Nat.le_refl _⟩,⟨pB⟩⟩
       case rest =>
        clear HC26;(try clear c1);(try clear c2);(try clear p2);(try clear c5);(try clear c6);(try clear p6);(try clear c8);(try clear bE);(try clear aN);(try clear aQ);(try clear bK);(try clear bM);(try clear aV);(try clear bF);(try clear bJ);(try clear bX);(try clear bY);(try clear bP);(try clear cZ);(try clear dD);(try clear dE);(try clear bQ);(try clear dA);(try clear dF);(try clear dG);(try clear bN);(try clear bA);(try clear bB);(try clear p2);(try clear p6);obtain ⟨kq,bH,aK,rfl,rfl,HA,dR,HB⟩ := hcut
        cases kq with
        | zero => exact absurd HA.out (by simp [flo_Make.j3])
        | succ dS =>
         have H := HA.out;clear HA;simp only [flo_Make.j3] at H;rcases iT H with ⟨bT,H⟩ | ⟨bT,H⟩
         ·have dI : (aK == 0) = true := beq_iff_eq.mpr bT;have dJ : (aK != 0) = false := bne_eq_false_iff_eq.mpr bT;clear bT;obtain rfl := Option.some.inj H;go_wp2
          go_ret
          exact ⟨by first | rfl | (simp [errW_none,errW_some] <;> rfl) | (simp only [← aX,← aU,← aI];first | rfl | (simp [errW_none,errW_some] <;> rfl)) | (simp [*,errW_none,errW_some] <;> rfl),pB⟩
         ·have dI : (aK == 0) = false := beq_eq_false_iff_ne.mpr bT;have dJ : (aK != 0) = true := bne_iff_ne.mpr bT;rcases iT H with ⟨dB,H⟩ | ⟨dB,H⟩
          ·have dK : decide (971 < bH) = true := decide_eq_true dB;clear dB;obtain rfl := Option.some.inj H;go_wp2
           go_ret
           exact ⟨by first | rfl | (simp [errW_none,errW_some] <;> rfl) | (simp only [← aX,← aU,← aI];first | rfl | (simp [errW_none,errW_some] <;> rfl)) | (simp [*,errW_none,errW_some] <;> rfl),pB⟩
          ·have dK : decide (971 < bH) = false := decide_eq_false dB;clear dB;rcases iT H with ⟨dC,H⟩ | ⟨dC,H⟩
           ·have dL : decide (aK < 4503599627370496) = true := decide_eq_true dC;clear dC;obtain rfl := Option.some.inj H;go_wp2
            go_ret
            exact ⟨by first | rfl | (simp [errW_none,errW_some] <;> rfl) | (simp only [← aX,← aU,← aI];first | rfl | (simp [errW_none,errW_some] <;> rfl)) | (simp [*,errW_none,errW_some] <;> rfl),pB⟩
           ·have dL : decide (aK < 4503599627370496) = false := decide_eq_false dC;clear dC;obtain rfl := Option.some.inj H;go_wp2
            go_ret
            exact ⟨by first | rfl | (simp [errW_none,errW_some] <;> rfl) | (simp only [← aX,← aU,← aI];first | rfl | (simp [errW_none,errW_some] <;> rfl)) | (simp [*,errW_none,errW_some] <;> rfl),pB⟩
end Go.Proofs.YtongfmeediokmaaGreatDoor.Pr
end
