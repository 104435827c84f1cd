/- Lemmas, and contracts of calls, for the law ValueForms. -/
import Derived.Test.YtongfmeediokmaaGreatDoorProg
import Derived.Below
import Derived.Deep.Draws
import Derived.Deep.AppendLies
import Derived.Maps.AppendAt
import Derived.OwnWalk
import Derived.Laws.BytesArg
import Derived.Laws.MakeOwn
import Derived.Laws.OwnMore
import Derived.Deep.OwnRows
import Derived.Tactics
import Derived.Lib.ConvBytes
import Derived.Laws.Slices
import Derived.WalkKit
import Derived.KernelRfl
import Derived.RowKit3
import Derived.Deep.LoopGhost
import Derived.Deep.QuietTactic
import Derived.BigQuiet
import Derived.WideLaws
import Derived.Deep.DeepCutAuto
import Derived.Deep.CutBlock
import Derived.Deep.RegionHeld3
import Derived.Laws.Rows
import Derived.Lib.AppendStr
import Derived.ArgAppend
import Derived.Laws.IdiomCopy
import Derived.OrdersHeld
import Derived.Laws.BitsLemmas
import Derived.RowKit
import Derived.Test.YtongfmeediokmaaGreatDoorZVF0
import Derived.WalkLawsBesides
import Derived.Lib.SliceRun
import Derived.Laws.Externs
import Derived.Shelf.Lay
import Derived.Shelf.Strconv.Itoa0
import Derived.Shelf.Small.Bits
import Derived.Shelf.LaysM
import Derived.Shelf.Strconv.Itoa3
import Derived.Shelf.Strings.Repeat
import Derived.Shelf.Strings.Trim
set_option linter.unusedVariables false
set_option linter.unusedSimpArgs false
section
namespace Go.Proofs.YtongfmeediokmaaGreatDoor.Pr
open Go.RowKit YtongfmeediokmaaGreatDoorW.PrintWords YtongfmeediokmaaGreatDoorW.PrintLast YtongfmeediokmaaGreatDoorW.PrintMore
attribute [local go_sem] zXb zQZ zXj zXi zQP zQO zXa zQY
def errW : Option Int → Value
  | none => .nilIface
  | some c => .iface 0 (.int .i64 c)
theorem errW_none : errW none = .nilIface := rfl
theorem errW_some (c : Int) : errW (some c) = .iface 0 (.int .i64 c) := rfl
theorem info5 : (Tryz.prog.info? 5).map (fun i => (i.zero,i.size,i.bytes)) = some (some (.int .u8 0),1,1) := by kernel_rfl
theorem zXW : (Tryz.prog.info? 22).map (fun i => (i.zero,i.size,i.bytes)) = some (some (.int .u64 0),1,8) := by kernel_rfl
theorem zXV : (Tryz.prog.info? 72).map (fun i => (i.zero,i.size,i.bytes)) = some (some (.int .u32 0),1,4) := by kernel_rfl
def rd_L1 (xs : List (List Int)) (i : Int) : (List Int) := xs.getD i.toNat ([] : List Int)
def rd_L5 (xs : List (List (List Int))) (i : Int) : (List (List Int)) := xs.getD i.toNat ([] : List (List Int))
structure S25 where
  f0 : Int
  f1 : Int
  f2 : ByteArray
  f3 : Int
def z25 : S25 := ⟨(0 : Int),(0 : Int),(⟨#[]⟩ : ByteArray),(0 : Int)⟩
def k25 : Kd S25 := Kd.iso (Kd.pair (Kd.int .i64) (Kd.pair (Kd.int .u64) (Kd.pair Kd.string (Kd.int .i64)))) (fun x : S25 => (x.f0,x.f1,x.f2,x.f3))
def zFV (xs : List S25) (i : Int) : S25 := xs.getD i.toNat z25
end Go.Proofs.YtongfmeediokmaaGreatDoor.Pr
end
section
namespace Go.Proofs.YtongfmeediokmaaGreatDoor.Flo
open Go Ieee
def rung (a : Nat) : Nat := a % 9223372036854775808
def nanB (a : Nat) : Bool := decide (9218868437227405312 < rung a)
def infB (a : Nat) : Bool := decide (rung a = 9218868437227405312)
theorem zJM (a : Nat) : double.read a = if rung a < 4503599627370496 then .number (a / 9223372036854775808 % 2 == 1) (rung a) (-1074) else if rung a < 9218868437227405312 then .number (a / 9223372036854775808 % 2 == 1) (4503599627370496 + rung a % 4503599627370496) (-1074 + ((rung a / 4503599627370496 - 1 : Nat) : Int)) else if rung a = 9218868437227405312 then .infinity (a / 9223372036854775808 % 2 == 1) else .nan (a / 9223372036854775808 % 2 == 1) (rung a - 9218868437227405312) := rfl
theorem zBm {a : Nat} (h : nanB a = true) : double.read a = .nan (a / 9223372036854775808 % 2 == 1) (rung a - 9218868437227405312) := by
 have h := of_decide_eq_true h;rw [zJM,if_neg zO,if_neg zO,if_neg zO]
theorem zZo {a : Nat} (h : infB a = true) : double.read a = .infinity (a / 9223372036854775808 % 2 == 1) := by
 have h := of_decide_eq_true h;rw [zJM,if_neg zO,if_neg zO,if_pos h]
def units (r : Nat) : Nat := if r < 4503599627370496 then r else (4503599627370496 + r % 4503599627370496) * 2 ^ (r / 4503599627370496 - 1)
theorem zZp {a : Nat} (h1 : nanB a = false) (h2 : infB a = false) : ∃ (m k : Nat),double.read a = .number (a / 9223372036854775808 % 2 == 1) m (-1074 + (k : Int)) ∧ m * 2 ^ k = units (rung a) := by
 have h1 := of_decide_eq_false h1;have h2 := of_decide_eq_false h2;rw [zJM];unfold units;by_cases h : rung a < 4503599627370496
 ·rw [if_pos h,if_pos h];exact ⟨_,0,rfl,by simp⟩
 ·rw [if_neg h,if_neg h,if_pos zO];exact ⟨_,_,rfl,rfl⟩
theorem zXQ {r s : Nat} (h : r < s) : units r < units s := by
 unfold units;by_cases hs : s < 4503599627370496
 ·rw [if_pos hs,if_pos zO];exact h
 ·rw [if_neg hs];by_cases hr : r < 4503599627370496
  ·rw [if_pos hr];have : 1 ≤ 2 ^ (s / 4503599627370496 - 1) := Nat.one_le_two_pow;have h2 : (4503599627370496 + s % 4503599627370496) * 1 ≤ (4503599627370496 + s % 4503599627370496) * 2 ^ (s / 4503599627370496 - 1) := Nat.mul_le_mul_left _ this;omega
  ·rw [if_neg hr];by_cases he : r / 4503599627370496 = s / 4503599627370496
   ·rw [he];exact Nat.mul_lt_mul_of_pos_right zO (Nat.two_pow_pos _)
   ·(have hlt : r / 4503599627370496 - 1 + 1 ≤ s / 4503599627370496 - 1 := by omega);have h1 : (4503599627370496 + r % 4503599627370496) * 2 ^ (r / 4503599627370496 - 1) < 9007199254740992 * 2 ^ (r / 4503599627370496 - 1) := Nat.mul_lt_mul_of_pos_right zO (Nat.two_pow_pos _);(have h2 : 9007199254740992 * 2 ^ (r / 4503599627370496 - 1) = 4503599627370496 * 2 ^ (r / 4503599627370496 - 1 + 1) := by rw [Nat.pow_succ];omega);have h3 : 4503599627370496 * 2 ^ (r / 4503599627370496 - 1 + 1) ≤ 4503599627370496 * 2 ^ (s / 4503599627370496 - 1) := Nat.mul_le_mul_left _ (Nat.pow_le_pow_right zO hlt);have h4 : 4503599627370496 * 2 ^ (s / 4503599627370496 - 1) ≤ (4503599627370496 + s % 4503599627370496) * 2 ^ (s / 4503599627370496 - 1) := Nat.mul_le_mul_right _ zO;omega
theorem zWI {r s : Nat} (h : units r = units s) : r = s := by
 rcases Nat.lt_trichotomy r s with h1 | h1 | h1
 ·have := zXQ h1;omega
 ·exact h1
 ·have := zXQ h1;omega
theorem zKK {r : Nat} (h : units r = 0) : r = 0 := zWI (h.trans (by rfl))
theorem zZJ (s : Bool) (m k j : Nat) : signed s m k * (2 : Int) ^ j = signed s (m * 2 ^ k) j := by
 unfold signed;simp only [Nat.shiftLeft_eq]
 cases s
 ·simp only [Bool.false_eq_true,if_false]
  push_cast
  rfl
 ·simp only [if_true]
  push_cast
  rw [Int.neg_mul]
theorem zVW (x y c : Int) (hc : 0 < c) : compare (x * c) (y * c) = compare x y := by
 have h1 : x * c < y * c ↔ x < y := Int.mul_lt_mul_right hc;have h2 : x * c = y * c ↔ x = y := ⟨fun h => Int.eq_of_mul_eq_mul_right zO h,fun h => by rw [h]⟩;simp only [compare,compareOfLessAndEq,h1,h2]
def negB (a : Nat) : Bool := a / 9223372036854775808 % 2 == 1
def sv (a : Nat) : Int := if negB a = true then -(units (rung a) : Int) else (units (rung a) : Int)
theorem zYD (s : Bool) (m : Nat) : signed s m 0 = if s = true then -(m : Int) else (m : Int) := by
 unfold signed;simp only [Nat.shiftLeft_zero]
theorem zVA {a b : Nat} (ha : nanB a = false) (ha2 : infB a = false) (hb : nanB b = false) (hb2 : infB b = false) : double.order a b = some (compare (sv a) (sv b)) := by
 obtain ⟨m,k,hr,hm⟩ := zZp ha ha2;obtain ⟨n,l,hs,hn⟩ := zZp hb hb2;unfold Format.order;rw [hr,hs]
 show some (compare (signed (negB a) m ((-1074 + (k : Int)) - min (-1074 + (k : Int)) (-1074 + (l : Int))).toNat) (signed (negB b) n ((-1074 + (l : Int)) - min (-1074 + (k : Int)) (-1074 + (l : Int))).toNat)) = _
 obtain ⟨c,hc⟩ : ∃ c,c = min k l := ⟨_,rfl⟩;(have e1 : ((-1074 + (k : Int)) - min (-1074 + (k : Int)) (-1074 + (l : Int))).toNat = k - c := by omega);(have e2 : ((-1074 + (l : Int)) - min (-1074 + (k : Int)) (-1074 + (l : Int))).toNat = l - c := by omega);rw [e1,e2]
 have full : ∀ (s : Bool) (m k : Nat),c ≤ k → signed s m (k - c) * (2 : Int) ^ c = signed s (m * 2 ^ k) 0 := fun s m k h => by
  have h1 := zZJ s m (k - c) c;have h2 := zZJ s m (k - c + c) 0
  have h3 : signed s (m * 2 ^ (k - c)) c = signed s (m * 2 ^ k) 0 := by
   unfold signed;simp only [Nat.shiftLeft_eq,Nat.pow_zero,Nat.mul_one,Nat.mul_assoc,← Nat.pow_add,Nat.sub_add_cancel h]
  rw [h1,h3]
 have hpos : (0 : Int) < 2 ^ c := Int.pow_pos zO;rw [← zVW _ _ _ hpos,full _ m k zO,full _ n l zO,hm,hn,zYD,zYD]
 rfl
theorem zKm {a b : Nat} (h : nanB a = true ∨ nanB b = true) : double.order a b = none := by
 unfold Format.order;rcases h with h | h
 ·rw [zBm h];rfl
 ·rw [zBm h]
  cases double.read a <;> rfl
def eqB (a b : Nat) : Bool := !nanB a && !nanB b && (decide (a = b) || (decide (rung a = 0) && decide (rung b = 0)))
theorem zBY {a b : Nat} (ha : a < 18446744073709551616) (hb : b < 18446744073709551616) (hr : rung a = rung b) (hn : negB a = negB b) : a = b := by
 unfold rung at hr;unfold negB at hn
 have h1 : (a / 9223372036854775808 % 2 = 1) ↔ (b / 9223372036854775808 % 2 = 1) := by
  constructor
  ·intro h;have := beq_iff_eq.2 h;rw [hn] at this;exact beq_iff_eq.1 this
  ·intro h;have := beq_iff_eq.2 h;rw [← hn] at this;exact beq_iff_eq.1 this
 omega
theorem zBs {a b : Nat} (ha : a < 18446744073709551616) (hb : b < 18446744073709551616) : (double.order a b == some .eq) = eqB a b := by
 unfold eqB
 cases h1 : nanB a with
 | true => rw [zKm (.inl h1)];rfl
 | false =>
  cases h2 : nanB b with
  | true => rw [zKm (.inr h2)];rfl
  | false =>
   simp only [Bool.not_false,Bool.true_and]
   cases h3 : infB a with
   | true =>
    have e3 := of_decide_eq_true h3
    cases h4 : infB b with
    | true =>
     have e4 := of_decide_eq_true h4;unfold Format.order;rw [zZo h3,zZo h4]
     show ((some (compare (negB b).toNat (negB a).toNat) : Option Ordering) == some .eq) = _
     have hz : decide (rung a = 0) = false := decide_eq_false zO;rw [hz,Bool.false_and,Bool.or_false];by_cases he : a = b
     ·subst he;rw [decide_eq_true rfl]
      cases negB a <;> rfl
     ·rw [decide_eq_false he];have : negB a ≠ negB b := fun h => he (zBY ha hb zO h)
      revert this
      cases negB a <;> cases negB b <;> simp <;> decide
    | false =>
     obtain ⟨n,l,hs,hn⟩ := zZp h2 h4;have e4 := of_decide_eq_false h4;unfold Format.order;rw [zZo h3,hs];have hz : decide (rung a = 0) = false := decide_eq_false zO;have he : decide (a = b) = false := decide_eq_false (fun h => by subst h;rw [h3] at h4;cases h4);rw [hz,he];show ((some (if (negB a) = true then Ordering.lt else Ordering.gt) : Option Ordering) == some .eq) = false
     cases negB a <;> rfl
   | false =>
    have e3 := of_decide_eq_false h3
    cases h4 : infB b with
    | true =>
     have e4 := of_decide_eq_true h4;obtain ⟨n,l,hs,hn⟩ := zZp h1 h3;unfold Format.order;rw [zZo h4,hs];have hz : decide (rung b = 0) = false := decide_eq_false zO;have he : decide (a = b) = false := decide_eq_false (fun h => by subst h;rw [h3] at h4;cases h4);rw [hz,he,Bool.and_false];show ((some (if (negB b) = true then Ordering.gt else Ordering.lt) : Option Ordering) == some .eq) = false
     cases negB b <;> rfl
    | false =>
     rw [zVA h1 h3 h2 h4]
     have key : sv a = sv b ↔ a = b ∨ (rung a = 0 ∧ rung b = 0) := by
      unfold sv;constructor
      ·intro h;by_cases hz : rung a = 0
       ·have hu : units (rung a) = 0 := by rw [hz];rfl
        have hub : units (rung b) = 0 := by
         split at h <;> split at h <;> omega
        exact .inr ⟨hz,zKK hub⟩
       ·(have hua : units (rung a) ≠ 0 := fun h => hz (zKK h));left
        have hn : negB a = negB b := by
         cases ea : negB a <;> cases eb : negB b <;> simp only [ea,eb,Bool.false_eq_true,if_false,if_true] at h <;> first | rfl | omega
        rw [hn] at h;(have hu : units (rung a) = units (rung b) := by split at h <;> omega);exact zBY ha hb (zWI hu) hn
      ·rintro (h | ⟨h,h'⟩)
       ·rw [h]
       ·rw [h,h'];have : units 0 = 0 := rfl;rw [this];split <;> split <;> rfl
     have hc : ((some (compare (sv a) (sv b)) : Option Ordering) == some .eq) = decide (sv a = sv b) := by
      simp only [compare,compareOfLessAndEq];by_cases hlt : sv a < sv b
      ·rw [if_pos hlt,decide_eq_false zO];rfl
      ·rw [if_neg hlt];by_cases he : sv a = sv b
       ·rw [if_pos he,decide_eq_true he];rfl
       ·rw [if_neg he,decide_eq_false he];rfl
     rw [hc];by_cases h : sv a = sv b
     ·rw [decide_eq_true h];rcases key.1 h with h5 | ⟨h5,h6⟩
      ·rw [decide_eq_true h5];rfl
      ·rw [decide_eq_true h5,decide_eq_true h6];simp
     ·rw [decide_eq_false h];(have h7 : ¬ (a = b ∨ (rung a = 0 ∧ rung b = 0)) := fun g => h (key.2 g));rw [decide_eq_false (fun g => h7 (.inl g))];by_cases h5 : rung a = 0
      ·rw [decide_eq_false (fun g => h7 (.inr ⟨h5,g⟩))];simp
      ·rw [decide_eq_false h5];rfl
theorem zZA {a : Nat} (ha : a < 18446744073709551616) : (double.order a a != some .eq) = nanB a := by
 have := zBs ha ha;rw [bne,this];unfold eqB;rw [decide_eq_true rfl]
 cases nanB a <;> rfl
theorem zJj {a : Nat} (ha : a < 18446744073709551616) : (double.order a 0 == some .eq) = decide (rung a = 0) := by
 rw [zBs ha zO];unfold eqB;(have h0 : nanB 0 = false := by decide);(have h1 : decide (rung 0 = 0) = true := by decide);rw [h0,h1,Bool.and_true];by_cases h : rung a = 0
 ·(have : nanB a = false := by unfold nanB;exact decide_eq_false zO);rw [this,decide_eq_true h];simp
 ·have : decide (a = 0) = false := decide_eq_false (fun e => h (by rw [e];rfl));rw [this,decide_eq_false h];simp
theorem sub_self {a : Nat} (h1 : nanB a = false) (h2 : infB a = false) : double.sub a a = some 0 := by
 obtain ⟨m,k,hr,hm⟩ := zZp h1 h2;unfold Format.sub;rw [hr];show some (double.write _) = some 0;have hb : ((-1074 + (k : Int)) - min (-1074 + (k : Int)) (-1074 + (k : Int))).toNat = 0 := by omega
 congr 1
 show double.write (.number (if signed (negB a) m ((-1074 + (k : Int)) - min (-1074 + (k : Int)) (-1074 + (k : Int))).toNat + signed (!negB a) m ((-1074 + (k : Int)) - min (-1074 + (k : Int)) (-1074 + (k : Int))).toNat = 0 then (negB a && !negB a) else decide (signed (negB a) m ((-1074 + (k : Int)) - min (-1074 + (k : Int)) (-1074 + (k : Int))).toNat + signed (!negB a) m ((-1074 + (k : Int)) - min (-1074 + (k : Int)) (-1074 + (k : Int))).toNat < 0)) (signed (negB a) m ((-1074 + (k : Int)) - min (-1074 + (k : Int)) (-1074 + (k : Int))).toNat + signed (!negB a) m ((-1074 + (k : Int)) - min (-1074 + (k : Int)) (-1074 + (k : Int))).toNat).natAbs (min (-1074 + (k : Int)) (-1074 + (k : Int)))) = 0;rw [hb]
 have hz : signed (negB a) m 0 + signed (!negB a) m 0 = 0 := by
  rw [zYD,zYD]
  cases negB a <;> simp <;> omega
 rw [hz,if_pos rfl];(have : (negB a && !negB a) = false := by cases negB a <;> rfl);rw [this];unfold Format.write Format.nearest;simp [Format.word]
theorem zHB {a : Nat} (h2 : infB a = true) : double.sub a a = none := by
 unfold Format.sub;rw [zZo h2];show Option.map double.write (if negB a = (!negB a) then _ else none) = none;rw [if_neg (by cases negB a <;> simp)]
 rfl
end Go.Proofs.YtongfmeediokmaaGreatDoor.Flo
end
section
namespace Go.Proofs.YtongfmeediokmaaGreatDoor.Pr
open Go.RowKit YtongfmeediokmaaGreatDoorW.PrintWords YtongfmeediokmaaGreatDoor.Flo
def kindV (a : Nat) : Int := if nanB a = true then 4 else if rung a = 0 then 0 else if infB a = true then 3 else if rung a < 4503599627370496 then 1 else 2
def flo_canon.f (a : Int) : Option Int := if 0 ≤ a ∧ a < 18446744073709551616 then some (if nanB a.toNat = true then 9221120237041090560 else a) else none
def flo_kind.f (a : Int) : Option Int := if 0 ≤ a ∧ a < 18446744073709551616 then some (kindV a.toNat) else none
theorem zBy (n : Int) (w : World) : (callFunc 50 #[.int .u64 n]).run Tryz.prog w = .ok (.value (.float .f64 n.toNat)) w := by
 rw [run_callFunc_extern Tryz.func50 (by kernel_rfl) (by kernel_rfl) (by kernel_rfl) (e := Extern.MathFloatBits.float64frombits) (by kernel_rfl)]
 rfl
theorem flo_canon.calls (a r : Int) (w : World) (h : flo_canon.f a = some r) : Calls Tryz.prog 36 #[.int .u64 a] w fun e w' => e = .returned (.int .u64 r) ∧ Drawn0 w w' := by
 unfold flo_canon.f at h;by_cases hb : 0 ≤ a ∧ a < 18446744073709551616
 ·rw [if_pos hb] at h;obtain rfl := Option.some.inj h;have ho : (FloatKind.f64.format.order a.toNat a.toNat != some Ordering.eq) = nanB a.toNat := zZA (a := a.toNat) zO;have hx := zBy;clear h hb
  cases hn : nanB a.toNat with
  | true =>
   rw [if_pos rfl];rw [hn] at ho;clear hn;go_enter Tryz.func36,Tryz.ntmps36;go_wp2
   go_ret
   exact ⟨rfl,Drawn0.refl _⟩
  | false =>
   rw [if_neg (by decide)];rw [hn] at ho;clear hn;go_enter Tryz.func36,Tryz.ntmps36;go_wp2
   go_ret
   exact ⟨rfl,Drawn0.refl _⟩
 ·rw [if_neg hb] at h
  cases h
theorem zJI {P : Program} (t : TypeId) {x : Nat} (h : infB x = true) (w : World) : ∃ b,(FloatKind.f64.format.order b 0 != some Ordering.eq) = true ∧ (binOp .sub t (.float .f64 x) (.float .f64 x)).run P w = .ok (.float .f64 b) w.drew := by
 have hs : FloatKind.f64.format.sub x x = none := zHB h;refine ⟨Question.cut (.nanBits .f64 x x) (w.tape w.drawn (.nanBits .f64 x x)),?_,?_⟩
 ·generalize w.tape w.drawn (.nanBits .f64 x x) = t
  have hn : nanB (Question.cut (.nanBits .f64 x x) t) = true := by
   show decide (9218868437227405312 < rung ((t % 2) * 2 ^ 63 + 0x7ff0000000000000 + 1 + (t / 2) % (2 ^ 52 - 1))) = true
   refine decide_eq_true ?_
   unfold rung;have hu : t / 2 % (2 ^ 52 - 1) < 4503599627370495 := Nat.mod_lt _ (by decide);generalize t / 2 % (2 ^ 52 - 1) = u at hu;rcases (show t % 2 = 0 ∨ t % 2 = 1 by omega) with e | e
   ·rw [e];omega
   ·rw [e];omega
  have ho : Ieee.double.order (Question.cut (.nanBits .f64 x x) t) 0 = none := zKm (.inl hn);show (Ieee.double.order (Question.cut (.nanBits .f64 x x) t) 0 != some Ordering.eq) = true;rw [ho]
  rfl
 ·simp [binOp,Op.floatArith,hs,choose,Sem.run,Question.forced];try rfl
theorem zJJ {P : Program} (t : TypeId) {x : Nat} (h : nanB x = false) (h2 : infB x = false) (w : World) : (binOp .sub t (.float .f64 x) (.float .f64 x)).run P w = .ok (.float .f64 0) w :=
 run_float_arith w .sub t .f64 x x 0 (sub_self h h2)
theorem expB (a : Int) (h0 : 0 ≤ a) (h1 : a < 18446744073709551616) : (Go.bits .and .u64 (a / 4503599627370496) 2047 == 0) = decide (rung a.toNat < 4503599627370496) := by
 obtain ⟨n,rfl⟩ := Int.eq_ofNat_of_zero_le h0
 have hb : Go.bits .and .u64 ((n : Int) / 4503599627370496) 2047 = ((n / 4503599627370496 % 2048 : Nat) : Int) := by
  (have e1 : ((n : Int) / 4503599627370496) = ((n / 4503599627370496 : Nat) : Int) := by omega);rw [e1];(have hlt : n / 4503599627370496 < 2 ^ 64 := by omega);unfold Go.bits;rw [show IntKind.u64.bits = 64 from rfl];simp only [BitVec.toNat_and];rw [show (BitVec.ofInt 64 2047).toNat = 2 ^ 11 - 1 from rfl]
  have e2 : (BitVec.ofInt 64 ((n / 4503599627370496 : Nat) : Int)).toNat = n / 4503599627370496 := by
   rw [BitVec.ofInt_natCast,BitVec.toNat_ofNat,Nat.mod_eq_of_lt hlt]
  rw [e2,Nat.and_two_pow_sub_one_eq_mod];unfold IntKind.wrap;simp [IntKind.bits,IntKind.signed];omega
 rw [hb];unfold rung;rw [Int.toNat_natCast];by_cases h : n % 9223372036854775808 < 4503599627370496
 ·rw [decide_eq_true h];exact beq_iff_eq.2 zO
 ·rw [decide_eq_false h];exact beq_eq_false_iff_ne.2 zO
set_option maxHeartbeats 800000 in
theorem flo_kind.calls (a r : Int) (w : World) (h : flo_kind.f a = some r) : Calls Tryz.prog 45 #[.int .u64 a] w fun e w' => e = .returned (.int .i64 r) ∧ Drawn0 w w' := by
 unfold flo_kind.f at h;by_cases hb : 0 ≤ a ∧ a < 18446744073709551616
 ·rw [if_pos hb] at h;obtain rfl := Option.some.inj h;have ho : (FloatKind.f64.format.order a.toNat a.toNat != some Ordering.eq) = nanB a.toNat := zZA (a := a.toNat) zO;have hz : (FloatKind.f64.format.order a.toNat 0 == some Ordering.eq) = decide (rung a.toNat = 0) := zJj (a := a.toNat) zO;have hx := zBy;have he := expB a hb.1 hb.2;have hzz : (FloatKind.f64.format.order 0 0 != some Ordering.eq) = false := zZA (a := 0) zO;clear h hb;unfold kindV
  cases hn : nanB a.toNat with
  | true =>
   rw [if_pos rfl];rw [hn] at ho;clear hn hz he hzz;go_enter Tryz.func45,Tryz.ntmps45;go_wp2
   go_ret
   exact ⟨rfl,Drawn0.refl _⟩
  | false =>
   rw [if_neg (by decide)];rw [hn] at ho;by_cases h0 : rung a.toNat = 0
   ·rw [if_pos h0];rw [decide_eq_true h0] at hz;clear hn h0 he hzz;go_enter Tryz.func45,Tryz.ntmps45;go_wp2
    go_ret
    exact ⟨rfl,Drawn0.refl _⟩
   ·rw [if_neg h0];rw [decide_eq_false h0] at hz
    cases hi : infB a.toNat with
    | true =>
     rw [if_pos rfl];obtain ⟨b,hb1,hb2⟩ := zJI (P := Tryz.prog) 65 hi w;clear hn h0 he hi hzz;go_enter Tryz.func45,Tryz.ntmps45;go_wp2
     go_ret
     exact ⟨rfl,⟨1,rfl⟩⟩
    | false =>
     rw [if_neg (by decide)];have hs := zJJ (P := Tryz.prog) 65 hn hi;clear hn h0 hi;by_cases h1 : rung a.toNat < 4503599627370496
     ·rw [if_pos h1];rw [decide_eq_true h1] at he;clear h1;go_enter Tryz.func45,Tryz.ntmps45;go_wp2
      go_ret
      exact ⟨rfl,Drawn0.refl _⟩
     ·rw [if_neg h1];rw [decide_eq_false h1] at he;clear h1;go_enter Tryz.func45,Tryz.ntmps45;go_wp2
      go_ret
      exact ⟨rfl,Drawn0.refl _⟩
 ·rw [if_neg hb] at h
  cases h
end Go.Proofs.YtongfmeediokmaaGreatDoor.Pr
end
section
namespace Go.Proofs.YtongfmeediokmaaGreatDoor.Pr
open Go.RowKit YtongfmeediokmaaGreatDoorW.PrintWords YtongfmeediokmaaGreatDoorW.PrintLast YtongfmeediokmaaGreatDoorW.PrintMore
set_option maxHeartbeats 8000000
set_option maxRecDepth 100000
theorem infoB : (Tryz.prog.info? 72).map (fun i => (i.zero,i.size,i.bytes)) = some (some (.int .u32 0),1,4) := by kernel_rfl
def xrdB (xs : List (List Int)) (i : Int) : (List Int) := xs.getD i.toNat ([] : List Int)
theorem xatB {w : World} {A : Option Addr} {n : Nat} {xs : List (List Int)} (h : Kd.C (Kd.slice 72 (Kd.int .u32)) w A n xs) (i : Int) (h0 : 0 ≤ i) (h1 : i < n) : ∃ ad A0 c0,A = some ad ∧ w.cell? (ad.add i.toNat) = some (.slice A0 (xrdB xs i).length c0) ∧ (xrdB xs i).length ≤ c0 ∧ (Kd.int .u32).C w A0 (xrdB xs i).length (xrdB xs i) := by
 obtain ⟨ad,c,e,_,hK,hc0⟩ := Kd.C_get h ([] : List Int) i h0 h1;have hc : ∀ j u,c[j]? = some u → w.cell? (ad.add (i.toNat * 1 + j)) = some u := hc0;obtain ⟨A0,c0,rfl,l0,g0⟩ := hK;exact ⟨ad,A0,c0,e,by have hq := hc 0 _ rfl;rwa [Nat.mul_one,Nat.add_zero] at hq,l0,g0⟩
theorem zZZ {α : Type} (l : List α) (k : Nat) (d : α) (h : k < l.length) : l.take (k + 1) = l.take k ++ [l.getD k d] := by
 rw [List.take_succ_eq_append_getElem h];simp [List.getD_eq_getElem?_getD,List.getElem?_eq_getElem h]
theorem zGK (n : Nat) (w : World) (hn : n ≤ 35184372088832) :
  Calls Tryz.prog 109 #[.slice none 0 0,.int .i64 n] w fun e w' => ∃ v0_ : Value,e = .returned (v0_) ∧ Kd.R (Kd.int .u32) 72 w' w.heap.size (fun _ => True) v0_ [] ∧ Below w.heap.size w w' := by
 have hcap : ∀ (W : World) (W2 : World) (v : Value),Kd.R (Kd.int .u32) 72 W w.heap.size (fun _ => True) v (List.replicate n 0) → ∃ v2,(Instr.slice 70 v none (some (.int .i64 0)) none).run Tryz.prog W2 = .ok v2 W2 ∧ Kd.R (Kd.int .u32) 72 W w.heap.size (fun _ => True) v2 [] := by
  intro W W2 v hv;obtain ⟨A,c,rfl,hl,hr⟩ := Kd.zWD hv;refine ⟨.slice A 0 c,?_,by simpa using Kd.zHs hv (m := 0) (Nat.zero_le _)⟩;(have hel : Tryz.prog.elem 70 = 72 := by simp [Program.elem,Tryz.underlying70]);(have hu : Tryz.prog.underlying 70 = some (.slice (Tryz.prog.elem 70)) := by rw [hel];exact Tryz.underlying70);obtain ⟨i0,hi,hz0,hz1,hz2⟩ := info_parts infoB;rw [run_slice_h (P := Tryz.prog) W2 70 A (List.replicate n (0:Int)).length c hu .i64 0 zO zO,hel];simp [sizeOf,typeInfo,hi,hz1,sliced,Result.andThen]
  intro _
  cases A <;> simp [Addr.add]
 by_cases h0 : 0 < n
 ·have HB := Aside0.mk (Below.refl w.heap.size w);have Hcap := Aside0.mk hcap;clear hcap;go_enter Tryz.func109,Tryz.ntmps109;go_wp2_with (first | ((with_reducible refine zQB (b := .append) (xs := #[.tmp 20,.tmp 21]) rfl ?_);at_builtin;refine Kd.zKI (Kd.int .u32) (w0 := w) w.heap.size rfl (.tmp 20) (.tmp 21) 70 3 72 (.int .u32 0) 4 rfl Tryz.underlying70 Tryz.underlying3 infoB rfl (by decide) zO (.slice none 0 0) ([] : List Int) (0 : Int) (n : Int) (fun _ => True) rfl rfl rfl (fun _ _ => trivial) (Kd.R_nil _ _ _ _ _) zO (Below.refl _ _) (Nat.le_refl _) (by simp;omega) ?_;intro v105 w5 ho hb hg hat;rw [Int.toNat_natCast,List.nil_append] at ho;obtain ⟨v2,hr2,ho2⟩ := Hcap.out w5 w5 v105 ho;have HO5 := Aside0.mk ho2;have HB5 := Aside0.mk hb;clear ho hb hg hat ho2 Hcap))
  go_ret
  exact ⟨_,rfl,HO5.out,HB5.out⟩
 ·(obtain rfl : n = 0 := by omega);go_enter Tryz.func109,Tryz.ntmps109;go_wp2
  go_ret
  exact ⟨_,rfl,Kd.R_nil _ _ _ _ _,Below.refl _ _⟩
def zXz (l : List (List Int)) : Nat := (l.map List.length).sum
theorem zYC (l : List (List Int)) (k : Nat) (h : k < l.length) : zXz (l.take (k + 1)) = zXz (l.take k) + (l.getD k []).length := by
 rw [zZZ l k [] h];simp [zXz]
theorem zYH (l : List (List Int)) (k : Nat) : zXz (l.take k) ≤ zXz l := by
 (have h : zXz (l.take k ++ l.drop k) = zXz (l.take k) + zXz (l.drop k) := by simp only [zXz,List.map_append,List.sum_append]);rw [List.take_append_drop] at h;omega
theorem zKt (l : List (List Int)) : l.flatten.length = zXz l := by simp [zXz,List.length_flatten]
def slices_Concat.f (l0 : List (List Int)) : Option (List Int) := if l0.flatten.length < 35184372088832 then some l0.flatten else none
theorem slices_Concat.calls (A0 : Option Addr) (c0 : Nat) (l0 : List (List Int)) (r : List Int) (w : World) (hr0 : Kd.C (Kd.slice 72 (Kd.int .u32)) w A0 l0.length l0) (hc0 : l0.length ≤ c0) (h : slices_Concat.f l0 = some r) :
  Calls Tryz.prog 89 #[.slice A0 l0.length c0] w fun e w' => ∃ v0_ : Value,e = .returned (v0_) ∧ Kd.R (Kd.int .u32) 72 w' w.heap.size (fun _ => True) v0_ r ∧ Below w.heap.size w w' := by
 unfold slices_Concat.f at h;by_cases hl : l0.flatten.length < 35184372088832
 ·rw [if_pos hl] at h;obtain rfl := Option.some.inj h;clear h;rw [zKt] at hl;have HR0 := Aside0.mk hr0;have HLL := Aside0.mk hl;have HL0 := Kd.C_max hr0;clear hr0 hl;go_enter Tryz.func89,Tryz.ntmps89;go_wp2_with fail
  go_loop [3,11] (fun s i => ∃ (sv k : Nat),Aside0 (sv = zXz (l0.take k)) ∧ k ≤ l0.length ∧ sv < 35184372088832 ∧ i = .int .i64 k ∧ s = .int .i64 sv) (fun _ i => l0.length - (intOf i).toNat)
  case atStart => exact ⟨0,0,⟨rfl⟩,Nat.zero_le _,by omega,rfl,rfl⟩
  case round =>
   obtain ⟨sv,k,HE,hk,hs,rfl,rfl⟩ := hrel;by_cases hlt : k < l0.length
   ·obtain ⟨ad,A1,c1,rfl,hx,hc1,hr1⟩ := xatB HR0.out (k : Int) zO zO;rw [Int.toNat_natCast] at hx
    have ht : sv + (xrdB l0 (k : Int)).length < 35184372088832 := by
     have h1 := zYC l0 k hlt;have h2 := zYH l0 (k + 1);have h3 := HLL.out;have h4 := HE.out;have h5 : (xrdB l0 (k : Int)).length = (l0.getD k []).length := rfl;omega
    obtain ⟨x,Hx⟩ : ∃ x,Aside0 (x = xrdB l0 (k : Int)) := ⟨_,⟨rfl⟩⟩;rw [← Hx.out] at hx hc1 hr1 ht;clear hr1;go_wp2_with fail
    go_round
    case rel =>
     refine ⟨sv + x.length,k + 1,⟨?_⟩,by omega,by omega,by go_num,by go_num⟩;rw [zYC l0 k hlt,← HE.out,Hx.out]
     rfl
    case measure => simp [intOf];omega
   ·(obtain rfl : k = l0.length := by omega);have HT : Aside0 (sv = zXz l0) := ⟨by have := HE.out;rwa [List.take_of_length_le (Nat.le_refl _)] at this⟩;clear HE;go_wp2_with (go_at_call 109;refine (zGK sv _ zO).mono ?_;rintro e w1 ⟨v1,rfl,ho1,hb1⟩;have aA := Aside0.mk ho1;have HB1 := Aside0.mk hb1;clear ho1 hb1)
    go_loopw [6,27] (fun v i wr => ∃ (k : Nat) (xs : List Int),Aside0 (xs = (l0.take k).flatten) ∧ k ≤ l0.length ∧ i = .int .i64 k ∧ Aside0 (Kd.R (Kd.int .u32) 72 wr w.heap.size (fun _ => True) v xs) ∧ Aside0 (Below w.heap.size w wr)) (fun _ i _ => l0.length - (intOf i).toNat)
    case atStart => exact ⟨0,[],⟨rfl⟩,Nat.zero_le _,rfl,aA,HB1⟩
    case round =>
     obtain ⟨k,xs,HE,hk,rfl,HO,HB⟩ := hrel;by_cases hlt : k < l0.length
     ·obtain ⟨ad,A2,c2,rfl,hx,hc2,hr2⟩ := xatB (Kd.zQG HR0.out HB.out) (k : Int) zO zO;rw [Int.toNat_natCast] at hx;obtain ⟨x,Hx⟩ : ∃ x,Aside0 (x = xrdB l0 (k : Int)) := ⟨_,⟨rfl⟩⟩;rw [← Hx.out] at hx hc2 hr2;have HR2 := Aside0.mk hr2;clear hr2
      have HS : Aside0 (xs.length + x.length ≤ 35184372088832) := by
       have h1 := zYC l0 k hlt;have h2 := zYH l0 (k + 1);have h3 := HLL.out;(have h5 : x.length = (l0.getD k []).length := by rw [Hx.out];rfl);(have h6 : xs.length = zXz (l0.take k) := by rw [HE.out,zKt]);exact ⟨by omega⟩
      go_wp2_with (first | ((with_reducible refine zQB (b := .append) (xs := #[.tmp 31,.tmp 32]) rfl ?_);at_builtin;refine Kd.zXG (Kd.int .u32) (w0 := w) w.heap.size rfl (.tmp 31) (.tmp 32) 70 72 (.int .u32 0) 4 rfl Tryz.underlying70 infoB rfl (by decide) zO _ xs x _ _ _ (fun _ => True) (fun _ => False) rfl rfl HO.out HR2.out (fun _ _ h => h) (fun _ h => h.elim) (fun _ _ => trivial) HB.out HB.out.size (by have := HS.out;omega) ?_;intro aD w5 ho hb hg hat;have aC := Aside0.mk ho;have HB5 := Aside0.mk hb;clear ho hb hg hat))
      go_roundw
      case rel =>
       refine ⟨k + 1,xs ++ x,⟨?_⟩,by omega,by go_num,aC,HB5⟩;rw [zZZ l0 k [] hlt,HE.out,List.flatten_append,Hx.out];simp [xrdB]
      case measure => simp [intOf];omega
     ·have HT2 : Aside0 (xs = l0.flatten) := ⟨by have := HE.out;rwa [List.take_of_length_le zO] at this⟩;clear HE;go_wp2_with fail
      go_ret
      exact ⟨_,rfl,by rw [← HT2.out];exact HO.out,HB.out⟩
 ·rw [if_neg hl] at h
  cases h
open Kd in
theorem own_made {α : Type} (d : Kd α) {W : World} (base e : Nat) {z : Value} (hz : z.cells.size = d.sz) (hs0 : 0 < d.sz) (z0 : α) {ok okp : Nat → Prop} (hzero : d.M W base okp z0 z.cells.toList) (hok : ∀ k,okp k → ok k) (hfresh : ok W.heap.size) (hbase : base ≤ W.heap.size) (n c : Nat) (hnc : n ≤ c) (hc : c ≤ 281474976710656) :
  d.R e (W.alloc (.cells (madeCells z.cells (c * d.sz)) e)) base ok (.slice (some ⟨W.heap.size,0,none⟩) n c) (List.replicate n z0) := by
 have hrep := zKf hz hs0 hzero c
 have hfull : d.R e (W.alloc (.cells (madeCells z.cells (c * d.sz)) e)) base ok (.slice (some ⟨W.heap.size,0,none⟩) c c) (List.replicate c z0) := by
  refine ⟨fun k hk => ?_,(madeCells z.cells (c * d.sz)).toList,?_,?_⟩
  ·(have : W.heap.size = k := by simpa [Value.ownBlock] using hk);subst this;exact hfresh
  ·have h2 := World.ownsRow_lit (base := base) (e := e) (size := d.sz) W (madeCells z.cells (c * d.sz)) c hbase (by simp only [maxLen];omega) (by have := hrep.1;simpa using this)
   simpa using h2
  ·refine hrep.imp_ (fun p c hp => d.M_mono (fun k hk => ⟨hok k hk.1,fun he => ?_⟩) (zJZ (d.M_bound hp) (zQR (Below.refl _ _) _)));(have h3 : k = W.heap.size := by simpa [Value.ownBlock] using he);have := hk.2.2.1;omega
 have := zHs hfull (m := n) (by simpa using hnc)
 rwa [List.take_replicate,Nat.min_eq_left hnc] at this
section
variable {P : Program} {ops : Array Oper} {o : Oper} {rest : List Oper} {a : Act} {Q : Exit → Act → World → Prop}
open Kd in
theorem zKA {α : Type} (d : Kd α) {w0 W : World} (base e : Nat) (hgd : o.guard = none) {N : Tmp} (hd : o.dst = some N) (t : TypeId) (x y : Operand) (ho : o.op = .makeSlice t x y) (n c : Int) (hx : a.eval x = .int .i64 n) (hy : a.eval y = .int .i64 c)
  (ht : P.underlying t = some (.slice e)) (z : Value) (bytes : Nat) (hinfo : (P.info? e).map (fun i => (i.zero,i.size,i.bytes)) = some (some z,d.sz,bytes)) (hz : z.cells.size = d.sz) (hs0 : 0 < d.sz) (hb0 : 0 < bytes)
  (z0 : α) {ok okp : Nat → Prop} (hzero : d.M W base okp z0 z.cells.toList) (hok : ∀ k,okp k → ok k) (hfresh : ok W.heap.size) (h0 : 0 ≤ n) (hnc : n ≤ c) (hl : c.toNat * bytes ≤ 281474976710656) (HB : Below base w0 W) (hbase : base ≤ W.heap.size)
  (h : ∀ v1 w1,d.R e w1 base ok v1 (List.replicate n.toNat z0) → Below base w0 w1 → W.grownBy w1 none → (∃ b,v1.ownBlock = some b ∧ W.heap.size ≤ b) → wpList P ops Q rest (a.put o.dst v1) w1) : wpList P ops Q (o :: rest) a W := by
 obtain ⟨m,rfl⟩ := Int.eq_ofNat_of_zero_le h0;obtain ⟨c,rfl⟩ := Int.eq_ofNat_of_zero_le (Int.le_trans h0 hnc);simp only [Int.toNat_natCast] at hl h;obtain ⟨i0,hi,hzz⟩ := Option.map_eq_some_iff.1 hinfo;simp only [Prod.mk.injEq] at hzz;obtain ⟨hz0,hz1,hz2⟩ := hzz;have hm : c ≤ 281474976710656 := Nat.le_trans (Nat.le_mul_of_pos_right _ hb0) hl
 have hr := run_make (P := P) W t e i0 z ht hi hz0 .i64 .i64 (m : Int) (c : Int) zO zO
  (by
   have h3 : ((i0.bytes * c : Nat) : Int) ≤ 281474976710656 := by rw [hz2,Nat.mul_comm];omega
   rwa [Int.natCast_mul] at h3) zO
 simp only [Int.toNat_natCast] at hr;rw [hz1] at hr;refine zKu hgd (show (execOp a.eval o).run P W = .ok (.value (.slice (some ⟨W.heap.size,0,none⟩) m c)) _ by simp [execOp,ho,hx,hy,hr]) (h _ _ (own_made d base e hz hs0 z0 hzero hok hfresh hbase m c zO hm) (HB.alloc hbase _) (World.grownBy_alloc W _ none) ⟨W.heap.size,by simp [Value.ownBlock],Nat.le_refl _⟩)
end
end Go.Proofs.YtongfmeediokmaaGreatDoor.Pr
end
section
namespace Go.Proofs.YtongfmeediokmaaGreatDoor.Pr
open Go.RowKit YtongfmeediokmaaGreatDoorW.PrintWords YtongfmeediokmaaGreatDoorW.PrintLast YtongfmeediokmaaGreatDoorW.PrintMore Go.Shelf
shelf_lay Lays.n129 Nm 129 at Tryz as Tryz.laysLen64
shelf_lay Lays.n128 Nm 128 at Tryz as Tryz.laysLen32
theorem zFy : Tryz.laysLen64_ren.f 129 = 86 := by kernel_rfl
theorem zFz : Tryz.laysLen32_ren.f 128 = 88 := by kernel_rfl
def bits_Len64.f (a : Int) : Option Int := if 0 ≤ a ∧ a ≤ 18446744073709551615 then some (Lib.bitLen a.toNat : Int) else none
def bits_Len32.f (a : Int) : Option Int := if 0 ≤ a ∧ a ≤ 4294967295 then some (Lib.bitLen a.toNat : Int) else none
theorem bits_Len64.calls (a r : Int) (w : World) (h : bits_Len64.f a = some r) : Calls Tryz.prog 86 #[.int .u64 a] w fun e w' => e = .returned (.int .i64 r) ∧ Drawn0 w w' := by
 unfold bits_Len64.f at h;by_cases hb : 0 ≤ a ∧ a ≤ 18446744073709551615
 ·rw [if_pos hb] at h;obtain rfl := Option.some.inj h;have := Any.bits_Len64 { Tryz.laysLen64 with } a w hb.1 hb.2;rw [zFy] at this;exact this.mono fun e w' ⟨h1,h2⟩ => ⟨h1,by rw [h2];exact Drawn0.refl w⟩
 ·rw [if_neg hb] at h;exact absurd h (by simp)
theorem bits_Len32.calls (a r : Int) (w : World) (h : bits_Len32.f a = some r) : Calls Tryz.prog 88 #[.int .u32 a] w fun e w' => e = .returned (.int .i64 r) ∧ Drawn0 w w' := by
 unfold bits_Len32.f at h;by_cases hb : 0 ≤ a ∧ a ≤ 4294967295
 ·rw [if_pos hb] at h;obtain rfl := Option.some.inj h;have := Any.bits_Len32 { Tryz.laysLen32 with } a w hb.1 hb.2;rw [zFz] at this;exact this.mono fun e w' ⟨h1,h2⟩ => ⟨h1,by rw [h2];exact Drawn0.refl w⟩
 ·rw [if_neg hb] at h;exact absurd h (by simp)
shelf_lay LaysM.n171 Nm 171 at Tryz as Tryz.laysItoa
theorem fItoa : Tryz.laysItoa_ren.f 171 = 69 := by kernel_rfl
theorem gPow : Tryz.prog.globalNamed "internal/strconv.uint64pow10" = some 2 := by kernel_rfl
def zKB (w : World) : Prop := Lib.TabIs Tryz.prog w "internal/strconv.uint64pow10" .u64 Lib.pow10Tab
def zJn : List ByteArray := [⟨#[110,105,108]⟩,⟨#[98,111,111,108,101,97,110]⟩,⟨#[98,111,111,108,101,97,110]⟩,⟨#[110,117,109,98,101,114]⟩,⟨#[115,116,114,105,110,103]⟩,⟨#[116,97,98,108,101]⟩,⟨#[102,117,110,99,116,105,111,110]⟩,⟨#[116,104,114,101,97,100]⟩,⟨#[102,117,110,99,116,105,111,110]⟩]
def zGi (w : World) : Prop := ∀ i,i < 9 → w.cell? ⟨0,i,none⟩ = some (.string (zJn.getD i ⟨#[]⟩))
def zXO (w : World) : Prop := zKB w ∧ zGi w
theorem zGA {w w' : World} (h : zKB w) (hb : Below w.heap.size w w') : zKB w' := by
 have hlt := World.block_lt_of_cell? w _ (h.cell gPow 0 (by decide));unfold zKB Lib.TabIs World.var? at h ⊢;rw [gPow] at h ⊢;simp only [Option.bind_some] at h ⊢;rw [hb.block _ hlt];exact h
theorem zZr {w w' : World} (h : zXO w) (hb : Below w.heap.size w w') : zXO w' := ⟨zGA h.1 hb,fun i hi => zYn hb (h.2 i hi)⟩
theorem zJr {w : World} (h : zXO w) (n : Nat) : zXO (w.drewN n) := h
theorem zGL {w : World} (h : zXO w) : zXO w.drew := h
theorem below_grow (w : World) (n : Nat) (os : Array Obj) : Below w.heap.size w (Go.Sort.grow (w.drewN n) os) := ⟨rfl,rfl,rfl,by
  show w.heap.size ≤ (w.heap ++ os).size
  rw [Array.size_append];omega,fun k hk => by
  show (w.heap ++ os)[k]? = w.heap[k]?
  exact Array.getElem?_append_left hk⟩
def zHm (n : Int) : ByteArray := ⟨(Lib.itoa n).toArray⟩
def strconv_Itoa.f (a0 : Int) : Option ByteArray := if -9223372036854775808 ≤ a0 ∧ a0 ≤ 9223372036854775807 then some (zHm a0) else none
theorem strconv_Itoa.calls (a0 : Int) (r : ByteArray) (w : World) (hG : zXO w) (h : strconv_Itoa.f a0 = some r) :
  Calls Tryz.prog 69 #[.int .i64 a0] w fun e w' => e = .returned (.string r) ∧ Below w.heap.size w w' := by
 unfold strconv_Itoa.f at h;by_cases hs : -9223372036854775808 ≤ a0 ∧ a0 ≤ 9223372036854775807
 ·rw [if_pos hs] at h;obtain rfl := Option.some.inj h;have := Any.strconv_Itoa { Tryz.laysItoa with } a0 hs.1 hs.2 w hG.1;rw [fItoa] at this;exact this.mono fun e w' ⟨h1,k,os,h2⟩ => ⟨h1,by rw [h2];exact below_grow w k os⟩
 ·rw [if_neg hs] at h;exact absurd h (by simp)
shelf_lay Lays.n105 Nm 105 at Tryz as Tryz.laysRepeat
theorem zJT : Builder.Extra Tryz.prog Tryz.laysRepeat_ren where
 sizeBuilder := by kernel_rfl
 liesBuilder := by kernel_rfl
 t5 := Tryz.laysRepeat.t5
 a5 := Tryz.laysRepeat.a5
 z5 := Tryz.laysRepeat.z5
 v5 := Tryz.laysRepeat.v5
 infoByte := by kernel_rfl
 cellsByte := by kernel_rfl
 sizeByte := by kernel_rfl
 neB5 := by decide
theorem zHY : Tryz.laysRepeat_ren.f 105 = 70 := by kernel_rfl
def zBl (a0 : ByteArray) (n : Nat) : ByteArray := ⟨(Lib.repeatL a0.data.toList n).toArray⟩
def strings_Repeat.f (a0 : ByteArray) (a1 : Int) : Option ByteArray := if 0 ≤ a1 ∧ a1 ≤ 9223372036854775807 ∧ a0.size * a1.toNat ≤ 140737488355328 then some (zBl a0 a1.toNat) else none
theorem strings_Repeat.calls (a0 : ByteArray) (a1 : Int) (r : ByteArray) (w : World) (h : strings_Repeat.f a0 a1 = some r) :
  Calls Tryz.prog 70 #[.string a0,.int .i64 a1] w fun e w' => e = .returned (.string r) ∧ Below w.heap.size w w' := by
 unfold strings_Repeat.f at h;by_cases hs : 0 ≤ a1 ∧ a1 ≤ 9223372036854775807 ∧ a0.size * a1.toNat ≤ 140737488355328
 ·rw [if_pos hs] at h;obtain rfl := Option.some.inj h;obtain ⟨n,rfl⟩ := Int.eq_ofNat_of_zero_le hs.1;have := Any.strings_Repeat Tryz.laysRepeat zJT a0 n w zO hs.2.2;rw [zHY] at this;exact this
 ·rw [if_neg hs] at h;exact absurd h (by simp)
shelf_lay Lays.n162 Nm 162 at Tryz as Tryz.laysTrim
theorem fTrim : Tryz.laysTrim_ren.f 162 = 103 := by kernel_rfl
def zBf (a0 : ByteArray) (c : UInt8) : ByteArray := ⟨(Lib.trimRightB a0.data.toList c).toArray⟩
def strings_TrimRight.f (a0 a1 : ByteArray) : Option ByteArray := if a0.size ≤ 9223372036854775807 then (if a1 = ⟨#[48]⟩ then some (zBf a0 48) else none) else none
theorem strings_TrimRight.calls (a0 a1 : ByteArray) (r : ByteArray) (w : World) (h : strings_TrimRight.f a0 a1 = some r) :
  Calls Tryz.prog 103 #[.string a0,.string a1] w fun e w' => e = .returned (.string r) ∧ Drawn0 w w' := by
 unfold strings_TrimRight.f at h;by_cases hs : a0.size ≤ 9223372036854775807
 ·rw [if_pos hs] at h;by_cases h1 : a1 = ⟨#[48]⟩
  ·rw [if_pos h1] at h;obtain rfl := Option.some.inj h;subst h1;have := Any.strings_TrimRight_one Tryz.laysTrim a0 48 (by decide) w hs;rw [fTrim] at this;exact this.mono fun e w' ⟨h1,h2⟩ => ⟨h1,by rw [h2];exact Drawn0.refl w⟩
  ·rw [if_neg h1] at h;exact absurd h (by simp)
 ·rw [if_neg hs] at h;exact absurd h (by simp)
end Go.Proofs.YtongfmeediokmaaGreatDoor.Pr
end
section
namespace Go.Proofs.YtongfmeediokmaaGreatDoor.Pr
open Go.RowKit YtongfmeediokmaaGreatDoorW.PrintWords YtongfmeediokmaaGreatDoorW.PrintLast YtongfmeediokmaaGreatDoorW.PrintMore
theorem am {p : Prop} (h : p) : Aside0 p := ⟨h⟩
abbrev zS_ : Array Value := #[.int .u64 0,.int .u64 0,.slice none 0 0,.int .i64 0,.int .u64 0,.string (⟨#[]⟩ : ByteArray),.slice none 0 0,.int .i64 0,.int .u64 0,.string (⟨#[]⟩ : ByteArray),.slice none 0 0]
theorem pB {p : Prop} (h : p := by repeat (first | (with_reducible first | exact HB.out | apply zQR | apply zQK | apply zQL | refine zQT ?_ (Aside0.out (by with_reducible assumption))) | exact HB.out)) : p := h
theorem pK {p q : Prop} (h : p) (f : p → q := by intro h_;(with_reducible repeat (first | refine zQc ?_ _ | refine zQe ?_ | refine zQd ?_ _));exact h_) : q := f h
theorem pkb {W W1 W2 : World} {g : Nat} {o : Obj} (h : W.heap[g]? = some o) (hb : Below W1.heap.size W1 W2) (f : W.heap[g]? = some o → W1.heap[g]? = some o := by intro h_;(with_reducible repeat (first | refine zQc ?_ _ | refine zQe ?_ | refine zQd ?_ _));exact h_) : W2.heap[g]? = some o := zYR (f h) hb
theorem pkl {W W1 : World} {g : Nat} {o : Obj} (h : W.heap[g]? = some o) (f : W.heap[g]? = some o → W1.heap[g]? = some o := by intro h_;(with_reducible repeat (first | refine zQc ?_ _ | refine zQe ?_ | refine zQd ?_ _));exact h_) : g < W1.heap.size := zZs (f h)
theorem pR {p q : Prop} (h : p) (f : p → q := by intro h_;(with_reducible repeat (first | apply Kd.zQq | apply Kd.zQo | apply Kd.zQz));exact h_) : q := f h
theorem pN {p q : Prop} (h : p) (f : p → q := by intro h_;(with_reducible repeat (first | apply Kd.zFj | apply Kd.zFh | apply Kd.zFO));exact h_) : q := f h
theorem pV {p q : Prop} (h : p) (f : p → q := by intro h_;(with_reducible repeat (first | apply Kd.zQx | apply Kd.zQu | apply Kd.zQy));exact h_) : q := f h
theorem puA {P : Program} {ops : Array Oper} {Q : Exit → Act → World → Prop} {md : Region.Mode} {S : World → Prop} {ds : List Nat} {T : Bool × List (List Nat × List Nat)} {oi : Oper} {fuel : Nat} {l : Array Bool} {a : Act} {w : World} (i : Nat) (N : Option Tmp) (v : Value) (l' : Array Bool) (hi : ops[i]? = some oi) (hN : oi.dst = N) (hT : rtab md ops = T) (hy : Yields P ops oi v a) (a' : Act) (ha : a.put N v = a') (h : zQF P md ops Q S ds fuel l' a' w) (hk : anyT T l.toList l'.toList i = true := by kernel_rfl) (hQ : ∀ (c : List PanicEntry) (a : Act) (w : World),Q (Exit.panic c) (a.put oi.dst v) w → Q (Exit.panic c) a w := by exact fun _ _ _ h => h) : zQF P md ops Q S ds (fuel + 1) l a w := pure_ (i := i) (N := N) (v := v) (a' := a') l' hi hN (zFF hT hk) hQ hy ha h
theorem pI {α : Type} {a b : α} {p q : Prop} (e : a = b) (h : p) (f : a = b → p → q := by intro e_ h_;first | (rw [e_];with_reducible exact h_) | (have H2_ := (Option.bind_some _ _).symm.trans h_;rw [e_];with_reducible exact H2_) | (have H2_ := (Option.bind_some _ _).symm.trans h_;with_reducible exact H2_) | with_reducible exact h_ | (rw [e_];exact h_) | exact h_) : q := f e h
theorem iN {α : Type} {c : Prop} [Decidable c] {a : Option α} {r : α} (h : (if c then a else none) = some r) : c ∧ a = some r := by
 by_cases g : c
 · rw [if_pos g] at h;exact ⟨g,h⟩
 · rw [if_neg g] at h;cases h
theorem iT {α : Type} {c : Prop} [Decidable c] {a b : α} {r : α} (h : (if c then a else b) = r) : (c ∧ a = r) ∨ (¬ c ∧ b = r) := by
 by_cases g : c
 · rw [if_pos g] at h;exact .inl ⟨g,h⟩
 · rw [if_neg g] at h;exact .inr ⟨g,h⟩
theorem pC {p q : Prop} (h : p) (f : p → q := by intro h_;(repeat (first | exact h_ | (with_reducible refine Kd.zFo ?_ _) | (with_reducible refine Kd.zKD ?_ _) | (with_reducible refine Kd.zJD ?_)))) : q := f h
theorem pS {p : Prop} (h : p := by first | rfl | (simp;done) | (simp [*];done)) : p := h
theorem pQ0 {p : Prop} (h : p := by repeat (first | exact Drawn0.refl _ | apply Drawn0.step)) : p := h
theorem oB {α β : Type} {x : Option α} {f : α → Option β} {r : β} (h : x.bind f = some r) : ∃ t,Aside0 (x = some t) ∧ f t = some r := by
 obtain ⟨t,a,b⟩ := Option.bind_eq_some_iff.mp h;exact ⟨t,⟨a⟩,b⟩
theorem pRn {p q : Prop} (h : p) (f : p → q := by intro h_;(with_reducible repeat (first | apply Kd.zQq | apply Kd.zQo | apply Kd.zQz));exact Kd.zQs h_ (fun _ hk => by simp only [ne_eq] at hk ⊢;simp only [hk,not_false_eq_true,and_self])) : q := f h
theorem pVn {p q : Prop} (h : p) (f : p → q := by intro h_;(with_reducible repeat (first | apply Kd.zQx | apply Kd.zQu | apply Kd.zQy));exact Kd.zQj h_ (fun _ hk => by simp only [ne_eq] at hk ⊢;simp only [hk,not_false_eq_true,and_self])) : q := f h
theorem bS {w w1 w2 : World} (hb : Below w1.heap.size w1 w2) (h : Below w.heap.size w w1 := by repeat (first | (with_reducible first | exact HB.out | apply zQR | apply zQK | apply zQL | refine zQT ?_ (Aside0.out (by with_reducible assumption))) | exact HB.out)) : Aside0 (Below w.heap.size w w2) := am (zWb h hb)
theorem pM {p : Prop} (h : p := by (try simp only [List.map_toArray,List.map_cons,List.map_nil]);first | done | rfl | (simp only [List.length_drop,List.length_take];rfl)) : p := h
theorem pE {p : Prop} (h : p := by first | rfl | (simp [errW_none,errW_some] <;> rfl) | (simp [*,errW_none,errW_some] <;> rfl)) : p := h
theorem pZ {p : Prop} (h : p := by first | exact Kd.R_nil _ _ _ _ _ | exact Kd.N_nil _ _ _ _ _ | exact Kd.V_nil _ _ _ _ _ | exact Kd.Q_nil _ _ _ _ _ | exact Kd.S_nil _ _ _ _ _) : p := h
theorem pD {p : Prop} [Decidable p] (h : decide p = true := by first | (with_reducible assumption) | assumption) : p := of_decide_eq_true h
theorem pG {p : Prop} (h : p := by first | (with_reducible exact HG.out) | (with_reducible exact zJr HG.out _) | exact zZr HG.out pB | exact zZr HG.out pB | (repeat (first | (with_reducible exact HG.out) | apply zJr | apply zGL))) : p := h
theorem pA {p : Prop} (h : p := by simp only [Act.put,List.setIfInBounds_toArray,List.set_cons_zero,List.set_cons_succ,i64_w,i32_w];try rfl) : p := h
theorem pA2 {p : Prop} (h : p := by simp only [zKk,Act.put,List.setIfInBounds_toArray,List.set_cons_zero,List.set_cons_succ];try rfl) : p := h
theorem pX {α : Type} {d : Kd α} {e : Nat} {w : World} {base : Nat} {ok : Nat → Prop} {v : Value} {xs : List α} {g t : Nat} {cells : Array Value} (h : d.R e w base ok v xs) (hb : w.heap[g]? = some (.cells cells t (0,0))) (ht : e ≠ t ∨ ∀ k,ok k → k ≠ g := by first | (left;decide) | (right;intro k_ h_;first | exact h_ | exact h_.2 | exact h_.1.2 | exact h_.2.2 | exact h_.2.1 | exact h_.1.1.2 | exact h_.1.2.2 | exact h_.2.2.1 | exact h_.2.2.2)) : some g ≠ v.ownBlock := by
 rcases ht with ht | ht
 ·exact Kd.R_ne h hb ht
 ·intro e_;exact ht g (h.1 g e_.symm) rfl
def bm (n k : Nat) : Array Bool := ((List.range n).map (Nat.testBit k)).toArray
theorem cz0 {W : World} {g : Nat} {t : TypeId} {x0 : Value} {l : List Value} (h : W.heap[g]? = some (.cells (List.toArray (x0 :: l)) t (0,0))) : W.cell? ⟨g,0,none⟩ = some x0 := (zQM h 0).trans rfl
theorem cz1 {W : World} {g : Nat} {t : TypeId} {x0 x1 : Value} {l : List Value} (h : W.heap[g]? = some (.cells (List.toArray (x0 :: x1 :: l)) t (0,0))) : W.cell? ⟨g,1,none⟩ = some x1 := (zQM h 1).trans rfl
theorem cz2 {W : World} {g : Nat} {t : TypeId} {x0 x1 x2 : Value} {l : List Value} (h : W.heap[g]? = some (.cells (List.toArray (x0 :: x1 :: x2 :: l)) t (0,0))) : W.cell? ⟨g,2,none⟩ = some x2 := (zQM h 2).trans rfl
theorem cz3 {W : World} {g : Nat} {t : TypeId} {x0 x1 x2 x3 : Value} {l : List Value} (h : W.heap[g]? = some (.cells (List.toArray (x0 :: x1 :: x2 :: x3 :: l)) t (0,0))) : W.cell? ⟨g,3,none⟩ = some x3 := (zQM h 3).trans rfl
theorem cf1 {W : World} {g : Nat} {t : TypeId} {x0 : Value} (h : W.heap[g]? = some (.cells #[x0] t (0,0))) : W.cell? ⟨g,0,none⟩ = some x0 ∧ W.frozen? ⟨g,0,none⟩ = false := ⟨(zQM h 0).trans rfl,zQw h 0⟩
theorem cf2 {W : World} {g : Nat} {t : TypeId} {x0 x1 : Value} (h : W.heap[g]? = some (.cells #[x0,x1] t (0,0))) : W.cell? ⟨g,0,none⟩ = some x0 ∧ W.cell? ⟨g,1,none⟩ = some x1 ∧ W.frozen? ⟨g,0,none⟩ = false ∧ W.frozen? ⟨g,1,none⟩ = false := ⟨(zQM h 0).trans rfl,(zQM h 1).trans rfl,zQw h 0,zQw h 1⟩
theorem cf4 {W : World} {g : Nat} {t : TypeId} {x0 x1 x2 x3 : Value} (h : W.heap[g]? = some (.cells #[x0,x1,x2,x3] t (0,0))) : W.cell? ⟨g,0,none⟩ = some x0 ∧ W.cell? ⟨g,1,none⟩ = some x1 ∧ W.cell? ⟨g,2,none⟩ = some x2 ∧ W.cell? ⟨g,3,none⟩ = some x3 ∧ W.frozen? ⟨g,0,none⟩ = false ∧ W.frozen? ⟨g,1,none⟩ = false ∧ W.frozen? ⟨g,2,none⟩ = false ∧ W.frozen? ⟨g,3,none⟩ = false := ⟨(zQM h 0).trans rfl,(zQM h 1).trans rfl,(zQM h 2).trans rfl,(zQM h 3).trans rfl,zQw h 0,zQw h 1,zQw h 2,zQw h 3⟩
end Go.Proofs.YtongfmeediokmaaGreatDoor.Pr
end
section
namespace Go.Proofs.YtongfmeediokmaaGreatDoor.Pv
open Go.RowKit YtongfmeediokmaaGreatDoorW.PrintWords YtongfmeediokmaaGreatDoorW.PrintLast YtongfmeediokmaaGreatDoorW.PrintMore YtongfmeediokmaaGreatDoor.Pr
attribute [local go_sem] zXb zQZ zXj zXi zQP zQO zXa zQY
set_option maxHeartbeats 8000000
set_option maxRecDepth 100000
def errW : Option Int → Value
  | none => .nilIface
  | some c => .iface 0 (.int .i64 c)
theorem errW_none : errW none = .nilIface := rfl
theorem errW_some (c : Int) : errW (some c) = .iface 0 (.int .i64 c) := rfl
def flo_Canon.f (a0 : Int) : Option (Int) := (flo_canon.f a0).bind fun t101 => (some t101)
theorem flo_Canon.calls (a0 : Int) (r : Int) (w : World) (h : flo_Canon.f a0 = some r) :
  Calls Tryz.prog 25 #[.int .u64 a0] w fun e w' => e = .returned (.int .u64 r) ∧ Drawn0 w w' := by
 have H : ((flo_canon.f a0).bind fun aA => (some aA)) = some r := h;clear h;obtain ⟨aA,A2,H⟩ := oB H;obtain rfl := Option.some.inj H;go_enter Tryz.func25,Tryz.ntmps25;go_wp2_with (first | ((with_reducible refine zQb (f := 36) rfl ?_);refine zQg (some 4) rfl rfl Tryz.func36 (by kernel_rfl) rfl #[.int .u64 a0] rfl pM ?_;(with_reducible refine (flo_canon.calls a0 aA _ A2.out).mono ?_);rintro e w' ⟨rfl,⟨nd,rfl⟩⟩;refine ⟨_,rfl,?_⟩))
 go_ret
 exact ⟨pS,pQ0⟩
def value_normal.j0 : Nat → Int → Bool → Int → Int → ByteArray → Int → Option (Int × Int × ByteArray × Int)
 | 0,_,_,_,_,_,_ => none
 | k + 1,x4,x5,x103000,x103001,x103002,x103003 => if x5 = true then (some (x103000,0,(⟨#[]⟩ : ByteArray),0)) else (if x4 = 3 then ((flo_Canon.f x103001).bind fun t104 => (some (x103000,t104,(⟨#[]⟩ : ByteArray),0))) else (if x4 = 4 then (some (x103000,0,x103002,0)) else (if x4 = 5 then (some (x103000,0,(⟨#[]⟩ : ByteArray),x103003)) else (if x4 = 6 then (some (x103000,0,(⟨#[]⟩ : ByteArray),x103003)) else (if x4 = 7 then (some (x103000,0,(⟨#[]⟩ : ByteArray),x103003)) else (if x4 = 8 then (some (x103000,0,(⟨#[]⟩ : ByteArray),x103003)) else (some (0,0,(⟨#[]⟩ : ByteArray),0))))))))
def value_normal.f (k : Nat) (a0_0 : Int) (a0_1 : Int) (a0_2 : ByteArray) (a0_3 : Int) : Option (Int × Int × ByteArray × Int) := if a0_0 = 1 then (value_normal.j0 k a0_0 (a0_0 == 1) a0_0 a0_1 a0_2 a0_3) else (value_normal.j0 k a0_0 (a0_0 == 2) a0_0 a0_1 a0_2 a0_3)
theorem value_normal.mono_l : ∀ k,(∀ y0 y1 y2 y3 y4 y5,LeO (value_normal.j0 k y0 y1 y2 y3 y4 y5) (value_normal.j0 (k + 1) y0 y1 y2 y3 y4 y5))
 | 0 => fun _ _ _ _ _ _ r h => by simp [value_normal.j0] at h
 | k + 1 => by
  have ih0 := value_normal.mono_l k
  ·intro y0 y1 y2 y3 y4 y5;unfold value_normal.j0;repeat' first | (with_reducible exact ih0 _ _ _ _ _ _) | (with_reducible exact LeO.refl _) | (with_reducible exact LeO.none _) | (with_reducible refine LeO.ite ?_ ?_) | (with_reducible refine LeO.bind ?_ (fun _ => ?_))
theorem value_normal.mono : ∀ a0 a1 a2 a3 k,LeO (value_normal.f k a0 a1 a2 a3) (value_normal.f (k + 1) a0 a1 a2 a3) := by
 intro a0 a1 a2 a3 k;have ih0 := value_normal.mono_l k;unfold value_normal.f;repeat' first | (with_reducible exact ih0 _ _ _ _ _ _) | (with_reducible exact LeO.refl _) | (with_reducible exact LeO.none _) | (with_reducible refine LeO.ite ?_ ?_) | (with_reducible refine LeO.bind ?_ (fun _ => ?_))
theorem value_normal.calls (k : Nat) (a0_0 : Int) (a0_1 : Int) (a0_2 : ByteArray) (a0_3 : Int) (r1 : Int) (r2 : Int) (r3 : ByteArray) (r4 : Int) (w : World) (h : value_normal.f k a0_0 a0_1 a0_2 a0_3 = some (r1,r2,r3,r4)) :
  Calls Tryz.prog 33 #[.agg #[.int .i64 a0_0,.int .u64 a0_1,.string a0_2,.int .i64 a0_3]] w fun e w' => e = .returned (.agg #[.int .i64 r1,.int .u64 r2,.string r3,.int .i64 r4]) ∧ Below w.heap.size w w' := by
 have hu25 := Tryz.underlying25;have HB := am (Below.refl w.heap.size w);have H := h;unfold value_normal.f at H;clear h;have HC2 := am H;clear H;go_enter Tryz.func33,Tryz.ntmps33
 go_upto_if 5 with (first | ((with_reducible refine zQp (N := 1) rfl ?_);refine zQC ?hg (N := 1) ?hd (cs := #[.int .i64 a0_0,.int .u64 a0_1,.string a0_2,.int .i64 a0_3]) (t := 25) ?hr ?_;(case hd => rfl);(case hg => rfl);(case hr => first | (go_simp;done) | (go_simp;rfl));intro aG hg w3 hbox hb;have aC := am (hbox);have GW102 := am ((by rw [hg];exact (zQa pB) : w.heap.size ≤ aG));have GE102 := am ((by rw [hg];exact (zQa pB) : w.heap.size ≤ aG));replace HB := bS hb;clear hb hbox hg) | ((with_reducible refine zQp (N := 2) rfl ?_);refine zQC ?hg (N := 2) ?hd (cs := #[.int .i64 0,.int .u64 0,.string (⟨#[]⟩ : ByteArray),.int .i64 0]) (t := 25) ?hr ?_;(case hd => rfl);(case hg => rfl);(case hr => first | (go_simp;done) | (go_simp;rfl));intro aD hg w4 hbox hb;have aA := am (hbox);have GW103 := am ((by rw [hg];exact (zQa pB) : w.heap.size ≤ aD));have GE103 := am ((by rw [hg];exact (zQa pB) : w.heap.size ≤ aD));have NB102_103 := am ((by rw [hg];exact Nat.ne_of_lt (pkl aC.out) : aG ≠ aD));have NB103_102 := am ((by rw [hg];exact Nat.ne_of_gt (pkl aC.out) : aD ≠ aG));replace aC := am (pkb aC.out hb);replace HB := bS hb;clear hb hbox hg;have hnb5 := NB102_103.out;have hnc5 := NB103_102.out;have q6 := cf4 aC.out))
 (try simp only [Act.put,List.setIfInBounds_toArray,List.set_cons_zero,List.set_cons_succ])
 go_cut [5] (fun v5 wc => ∃ (kq : Nat) (aU : Bool),v5 = .bool aU ∧ Aside0 (value_normal.j0 kq a0_0 aU a0_0 a0_1 a0_2 a0_3 = some (r1,r2,r3,r4)) ∧ Aside0 (kq ≤ k) ∧ Aside0 (wc.heap[aG]? = some (.cells #[.int .i64 a0_0,.int .u64 a0_1,.string a0_2,.int .i64 a0_3] 25 (0,0))) ∧ Aside0 (wc.heap[aD]? = some (.cells #[.int .i64 0,.int .u64 0,.string (⟨#[]⟩ : ByteArray),.int .i64 0] 25 (0,0))) ∧ Aside0 (Below w.heap.size w wc))
 case first =>
  have H := HC2.out;clear HC2;rcases iT H with ⟨c7,H⟩ | ⟨c7,H⟩
  ·have aH : (a0_0 == 1) = true := beq_iff_eq.mpr c7;have aI : (a0_0 != 1) = false := bne_eq_false_iff_eq.mpr c7;clear c7;(first | rw [aH] | (simp only [i64_w,i32_w];rw [aH]) | rw [aI] | (simp only [i64_w,i32_w];rw [aI]) | skip);have H' := am H;clear H;go_wp2;go_meet
   case rel => exact ⟨_,((a0_0 == 1)),pS,H',⟨by first | omega | exact Nat.le_refl _⟩,⟨pK aC.out⟩,⟨pK aA.out⟩,⟨pB⟩⟩
  ·have aH : (a0_0 == 1) = false := beq_eq_false_iff_ne.mpr c7;have aI : (a0_0 != 1) = true := bne_iff_ne.mpr c7;(first | rw [aH] | (simp only [i64_w,i32_w];rw [aH]) | rw [aI] | (simp only [i64_w,i32_w];rw [aI]) | skip);have H' := am H;clear H;go_wp2;go_meet
   case rel => exact ⟨_,((a0_0 == 2)),pS,H',⟨by first | omega | exact Nat.le_refl _⟩,⟨pK aC.out⟩,⟨pK aA.out⟩,⟨pB⟩⟩
 case rest =>
  clear HC2;(try clear q6);obtain ⟨kq,aU,rfl,HA,bL,aC,aA,HB⟩ := hcut
  cases kq with
  | zero => exact absurd HA.out (by simp [value_normal.j0])
  | succ bM =>
   have H := HA.out;clear HA;simp only [value_normal.j0] at H;by_cases c8 : aU = true
   ·subst c8;rw [if_pos rfl] at H;simp only [Option.some.injEq,Prod.mk.injEq] at H;obtain ⟨rfl,rfl,rfl,rfl⟩ := H;have hnb9 := NB102_103.out;have hnc9 := NB103_102.out;have bN := cf4 aC.out;have bO := cf4 aA.out;go_wp2
    refine bodyPost_ret (results_cell_row rfl _ _ aD 25 #[.int .i64 a0_0,.int .u64 0,.string (⟨#[]⟩ : ByteArray),.int .i64 0] (0,0) _ rfl (by (iterate 3 ((with_reducible repeat (first | refine zQc ?_ _ | refine zQe ?_ | refine zQd ?_ _));refine zQi (cs := #[.int .i64 a0_0,.int .u64 0,.string (⟨#[]⟩ : ByteArray),.int .i64 0]) ?_ _ _ rfl));(with_reducible repeat (first | refine zQc ?_ _ | refine zQe ?_ | refine zQd ?_ _));refine zQi (cs := #[.int .i64 0,.int .u64 0,.string (⟨#[]⟩ : ByteArray),.int .i64 0]) ?_ 0 _ rfl;exact pK aA.out) Tryz.underlying25 rfl (by kernel_rfl)) rfl ?_
    exact ⟨pE,pB⟩
   ·replace c8 := Bool.eq_false_iff.mpr c8;subst c8;rw [if_neg (show ¬ (false = true) by decide)] at H;rcases iT H with ⟨aJ,H⟩ | ⟨aJ,H⟩
    ·have aX : (a0_0 == 3) = true := beq_iff_eq.mpr aJ;have aY : (a0_0 != 3) = false := bne_eq_false_iff_eq.mpr aJ;clear aJ;obtain ⟨aV,bK,H⟩ := oB H;simp only [Option.some.injEq,Prod.mk.injEq] at H;obtain ⟨rfl,rfl,rfl,rfl⟩ := H;(try go_wp2);replace aC := am (zQe aC.out);replace aA := am (zQe aA.out);replace HB := am (zQL HB.out);refine zYt (n := 7) (S := fun w' => w'.cell? ⟨aG,0,none⟩ = some (.int .i64 a0_0) ∧ w'.cell? ⟨aG,1,none⟩ = some (.int .u64 a0_1) ∧ w'.cell? ⟨aG,2,none⟩ = some (.string a0_2) ∧ w'.cell? ⟨aG,3,none⟩ = some (.int .i64 a0_3)) (ds := []) (bm 7 0) (by kernel_rfl) rfl rfl ⟨cz0 aC.out,cz1 aC.out,cz2 aC.out,cz3 aC.out⟩ (fun hHeld => ?_);generalize wc.drew = aW at aC aA HB hHeld ⊢
     refine pure_ (i := 0) (N := some 13) (v := ?_) (a' := ?_) (bm 7 1) rfl rfl (by kernel_rfl) (fun _ _ _ h => h) (Or.inl ⟨by kernel_rfl,?_⟩) ?_ ?_
     rotate_left;(intro w';go_simp;with_reducible rfl);rotate_left;exact pA
     refine pure_ (i := 2) (N := some 15) (v := ?_) (a' := ?_) (bm 7 5) rfl rfl (by kernel_rfl) (fun _ _ _ h => h) (Or.inl ⟨by kernel_rfl,?_⟩) ?_ ?_
     rotate_left;(intro w';go_simp;with_reducible rfl);rotate_left;exact pA
     refine take_ (i := 1) (N := some 14) (v := ?_) (a' := ?_) (bm 7 7) rfl rfl (by kernel_rfl) (fun _ _ _ h => h) (Or.inl ⟨by kernel_rfl,?_⟩) hHeld ?_ ?_
     rotate_left;(rintro w' ⟨s0,s1,s2,s3⟩;go_simp;with_reducible rfl);rotate_left;exact pA
     refine take_ (i := 3) (N := some 16) (v := ?_) (a' := ?_) (bm 7 15) rfl rfl (by kernel_rfl) (fun _ _ _ h => h) (Or.inl ⟨by kernel_rfl,?_⟩) hHeld ?_ ?_
     rotate_left;(rintro w' ⟨s0,s1,s2,s3⟩;go_simp;with_reducible rfl);rotate_left;exact pA;refine one_ (i := 4) (N := some 17) (bm 7 31) rfl rfl (by kernel_rfl) (by decide) (fun K hK => ?_)
     refine goes_ Tryz.func25 (by kernel_rfl) rfl #[.int .u64 a0_1] (by rfl) rfl rfl pM ?_
     with_reducible refine (flo_Canon.calls a0_1 aV _ bK.out).mono ?_
     rintro e w' ⟨rfl,⟨nd,rfl⟩⟩;refine ⟨_,rfl,?_⟩;refine hK.out _ _ ⟨cz0 aC.out,cz1 aC.out,cz2 aC.out,cz3 aC.out⟩ (fun hHeld => ?_);clear hK K
     refine norm_ (a' := ?_) ?_ ?_
     rotate_left;(show Act.put _ (some 17) _ = _;exact pA)
     refine pure_ (i := 5) (N := some 18) (v := ?_) (a' := ?_) (bm 7 63) rfl rfl (by kernel_rfl) (fun _ _ _ h => h) (Or.inl ⟨by kernel_rfl,?_⟩) ?_ ?_
     rotate_left;(intro w';go_simp;with_reducible rfl);rotate_left;exact pA;refine one_ (i := 6) (N := none) (bm 7 127) rfl rfl (by kernel_rfl) (by decide) (fun K hK => ?_);have hs15 : aW.cell? ⟨aD,0,none⟩ = some (.int .i64 0) := cz0 aA.out;have hfs15 := zQw aA.out 0;have hns15_0 := NB102_103.out;have hms15_0 := NB103_102.out;have hs16 : aW.cell? ⟨aD,1,none⟩ = some (.int .u64 0) := cz1 aA.out;have hfs16 := zQw aA.out 1;have hns16_0 := NB102_103.out;have hms16_0 := NB103_102.out;have hs17 : aW.cell? ⟨aD,2,none⟩ = some (.string (⟨#[]⟩ : ByteArray)) := cz2 aA.out;have hfs17 := zQw aA.out 2;have hns17_0 := NB102_103.out;have hms17_0 := NB103_102.out;have hs18 : aW.cell? ⟨aD,3,none⟩ = some (.int .i64 0) := cz3 aA.out;have hfs18 := zQw aA.out 3;have hns18_0 := NB102_103.out;have hms18_0 := NB103_102.out;refine skip_ (w1 := ?_) ?hw rfl ?_ ?_;(case hw => kernel_rfl);rotate_left
     ·go_simp
      rfl
     refine hK.out _ _ ⟨(by (repeat (with_reducible refine (cell_far (p := ⟨aD,_,none⟩) NB102_103.out _).trans ?_));exact hHeld.1),(by (repeat (with_reducible refine (cell_far (p := ⟨aD,_,none⟩) NB102_103.out _).trans ?_));exact hHeld.2.1),(by (repeat (with_reducible refine (cell_far (p := ⟨aD,_,none⟩) NB102_103.out _).trans ?_));exact hHeld.2.2.1),(by (repeat (with_reducible refine (cell_far (p := ⟨aD,_,none⟩) NB102_103.out _).trans ?_));exact hHeld.2.2.2)⟩ (fun hHeld => ?_);clear hK K
     refine done_ (by kernel_rfl) ?_
     try go_wp2
     refine bodyPost_ret (results_cell_row rfl _ _ aD 25 #[.int .i64 a0_0,.int .u64 aV,.string (⟨#[]⟩ : ByteArray),.int .i64 0] (0,0) _ rfl (by (iterate 2 ((with_reducible repeat (first | refine zQc ?_ _ | refine zQe ?_ | refine zQd ?_ _));refine zQi (cs := #[.int .i64 a0_0,.int .u64 aV,.string (⟨#[]⟩ : ByteArray),.int .i64 0]) ?_ _ _ rfl));(with_reducible repeat (first | refine zQc ?_ _ | refine zQe ?_ | refine zQd ?_ _));refine zQi (cs := #[.int .i64 a0_0,.int .u64 0,.string (⟨#[]⟩ : ByteArray),.int .i64 0]) ?_ 1 _ rfl;(with_reducible repeat (first | refine zQc ?_ _ | refine zQe ?_ | refine zQd ?_ _));refine zQi (cs := #[.int .i64 0,.int .u64 0,.string (⟨#[]⟩ : ByteArray),.int .i64 0]) ?_ 0 _ rfl;exact pK aA.out) Tryz.underlying25 rfl (by kernel_rfl)) rfl ?_
     exact ⟨pE,pB⟩
    ·have aX : (a0_0 == 3) = false := beq_eq_false_iff_ne.mpr aJ;have aY : (a0_0 != 3) = true := bne_iff_ne.mpr aJ;rcases iT H with ⟨aK,H⟩ | ⟨aK,H⟩
     ·have aZ : (a0_0 == 4) = true := beq_iff_eq.mpr aK;have bA : (a0_0 != 4) = false := bne_eq_false_iff_eq.mpr aK;clear aK;simp only [Option.some.injEq,Prod.mk.injEq] at H;obtain ⟨rfl,rfl,rfl,rfl⟩ := H;have hnb20 := NB102_103.out;have hnc20 := NB103_102.out;have bP := cf4 aC.out;have bQ := cf4 aA.out;go_wp2
      refine bodyPost_ret (results_cell_row rfl _ _ aD 25 #[.int .i64 a0_0,.int .u64 0,.string a0_2,.int .i64 0] (0,0) _ rfl (by (with_reducible repeat (first | refine zQc ?_ _ | refine zQe ?_ | refine zQd ?_ _));refine zQi (cs := #[.int .i64 a0_0,.int .u64 0,.string a0_2,.int .i64 0]) ?_ 3 _ rfl;(iterate 2 ((with_reducible repeat (first | refine zQc ?_ _ | refine zQe ?_ | refine zQd ?_ _));refine zQi (cs := #[.int .i64 a0_0,.int .u64 0,.string (⟨#[]⟩ : ByteArray),.int .i64 0]) ?_ _ _ rfl));(with_reducible repeat (first | refine zQc ?_ _ | refine zQe ?_ | refine zQd ?_ _));refine zQi (cs := #[.int .i64 0,.int .u64 0,.string (⟨#[]⟩ : ByteArray),.int .i64 0]) ?_ 0 _ rfl;exact pK aA.out) Tryz.underlying25 rfl (by kernel_rfl)) rfl ?_
      exact ⟨pE,pB⟩
     ·have aZ : (a0_0 == 4) = false := beq_eq_false_iff_ne.mpr aK;have bA : (a0_0 != 4) = true := bne_iff_ne.mpr aK;rcases iT H with ⟨aM,H⟩ | ⟨aM,H⟩
      ·have bB : (a0_0 == 5) = true := beq_iff_eq.mpr aM;have bC : (a0_0 != 5) = false := bne_eq_false_iff_eq.mpr aM;clear aM;simp only [Option.some.injEq,Prod.mk.injEq] at H;obtain ⟨rfl,rfl,rfl,rfl⟩ := H;have hnb24 := NB102_103.out;have hnc24 := NB103_102.out;have bT := cf4 aC.out;have bV := cf4 aA.out;go_wp2
       refine bodyPost_ret (results_cell_row rfl _ _ aD 25 #[.int .i64 a0_0,.int .u64 0,.string (⟨#[]⟩ : ByteArray),.int .i64 a0_3] (0,0) _ rfl (by (iterate 3 ((with_reducible repeat (first | refine zQc ?_ _ | refine zQe ?_ | refine zQd ?_ _));refine zQi (cs := #[.int .i64 a0_0,.int .u64 0,.string (⟨#[]⟩ : ByteArray),.int .i64 0]) ?_ _ _ rfl));(with_reducible repeat (first | refine zQc ?_ _ | refine zQe ?_ | refine zQd ?_ _));refine zQi (cs := #[.int .i64 0,.int .u64 0,.string (⟨#[]⟩ : ByteArray),.int .i64 0]) ?_ 0 _ rfl;exact pK aA.out) Tryz.underlying25 rfl (by kernel_rfl)) rfl ?_
       exact ⟨pE,pB⟩
      ·have bB : (a0_0 == 5) = false := beq_eq_false_iff_ne.mpr aM;have bC : (a0_0 != 5) = true := bne_iff_ne.mpr aM;rcases iT H with ⟨aN,H⟩ | ⟨aN,H⟩
       ·have bE : (a0_0 == 6) = true := beq_iff_eq.mpr aN;have bF : (a0_0 != 6) = false := bne_eq_false_iff_eq.mpr aN;clear aN;simp only [Option.some.injEq,Prod.mk.injEq] at H;obtain ⟨rfl,rfl,rfl,rfl⟩ := H;have hnb28 := NB102_103.out;have hnc28 := NB103_102.out;have bW := cf4 aC.out;have bX := cf4 aA.out;go_wp2
        refine bodyPost_ret (results_cell_row rfl _ _ aD 25 #[.int .i64 a0_0,.int .u64 0,.string (⟨#[]⟩ : ByteArray),.int .i64 a0_3] (0,0) _ rfl (by (iterate 3 ((with_reducible repeat (first | refine zQc ?_ _ | refine zQe ?_ | refine zQd ?_ _));refine zQi (cs := #[.int .i64 a0_0,.int .u64 0,.string (⟨#[]⟩ : ByteArray),.int .i64 0]) ?_ _ _ rfl));(with_reducible repeat (first | refine zQc ?_ _ | refine zQe ?_ | refine zQd ?_ _));refine zQi (cs := #[.int .i64 0,.int .u64 0,.string (⟨#[]⟩ : ByteArray),.int .i64 0]) ?_ 0 _ rfl;exact pK aA.out) Tryz.underlying25 rfl (by kernel_rfl)) rfl ?_
        exact ⟨pE,pB⟩
       ·have bE : (a0_0 == 6) = false := beq_eq_false_iff_ne.mpr aN;have bF : (a0_0 != 6) = true := bne_iff_ne.mpr aN;rcases iT H with ⟨aQ,H⟩ | ⟨aQ,H⟩
        ·have bG : (a0_0 == 7) = true := beq_iff_eq.mpr aQ;have bH : (a0_0 != 7) = false := bne_eq_false_iff_eq.mpr aQ;clear aQ;simp only [Option.some.injEq,Prod.mk.injEq] at H;obtain ⟨rfl,rfl,rfl,rfl⟩ := H;have hnb32 := NB102_103.out;have hnc32 := NB103_102.out;have bY := cf4 aC.out;have bZ := cf4 aA.out;go_wp2
         refine bodyPost_ret (results_cell_row rfl _ _ aD 25 #[.int .i64 a0_0,.int .u64 0,.string (⟨#[]⟩ : ByteArray),.int .i64 a0_3] (0,0) _ rfl (by (iterate 3 ((with_reducible repeat (first | refine zQc ?_ _ | refine zQe ?_ | refine zQd ?_ _));refine zQi (cs := #[.int .i64 a0_0,.int .u64 0,.string (⟨#[]⟩ : ByteArray),.int .i64 0]) ?_ _ _ rfl));(with_reducible repeat (first | refine zQc ?_ _ | refine zQe ?_ | refine zQd ?_ _));refine zQi (cs := #[.int .i64 0,.int .u64 0,.string (⟨#[]⟩ : ByteArray),.int .i64 0]) ?_ 0 _ rfl;exact pK aA.out) Tryz.underlying25 rfl (by kernel_rfl)) rfl ?_
         exact ⟨pE,pB⟩
        ·have bG : (a0_0 == 7) = false := beq_eq_false_iff_ne.mpr aQ;have bH : (a0_0 != 7) = true := bne_iff_ne.mpr aQ;rcases iT H with ⟨aT,H⟩ | ⟨aT,H⟩
         ·have bI : (a0_0 == 8) = true := beq_iff_eq.mpr aT;have bJ : (a0_0 != 8) = false := bne_eq_false_iff_eq.mpr aT;clear aT;simp only [Option.some.injEq,Prod.mk.injEq] at H;obtain ⟨rfl,rfl,rfl,rfl⟩ := H;have hnb36 := NB102_103.out;have hnc36 := NB103_102.out;have cB := cf4 aC.out;have cK := cf4 aA.out;go_wp2
          refine bodyPost_ret (results_cell_row rfl _ _ aD 25 #[.int .i64 a0_0,.int .u64 0,.string (⟨#[]⟩ : ByteArray),.int .i64 a0_3] (0,0) _ rfl (by (iterate 3 ((with_reducible repeat (first | refine zQc ?_ _ | refine zQe ?_ | refine zQd ?_ _));refine zQi (cs := #[.int .i64 a0_0,.int .u64 0,.string (⟨#[]⟩ : ByteArray),.int .i64 0]) ?_ _ _ rfl));(with_reducible repeat (first | refine zQc ?_ _ | refine zQe ?_ | refine zQd ?_ _));refine zQi (cs := #[.int .i64 0,.int .u64 0,.string (⟨#[]⟩ : ByteArray),.int .i64 0]) ?_ 0 _ rfl;exact pK aA.out) Tryz.underlying25 rfl (by kernel_rfl)) rfl ?_
          exact ⟨pE,pB⟩
         ·have bI : (a0_0 == 8) = false := beq_eq_false_iff_ne.mpr aT;have bJ : (a0_0 != 8) = true := bne_iff_ne.mpr aT;simp only [Option.some.injEq,Prod.mk.injEq] at H;obtain ⟨rfl,rfl,rfl,rfl⟩ := H;have hnb39 := NB103_102.out;have hnc39 := NB102_103.out;have cO := cf4 aA.out;go_wp2
          refine bodyPost_ret (results_cell_row rfl _ _ aD 25 #[.int .i64 0,.int .u64 0,.string (⟨#[]⟩ : ByteArray),.int .i64 0] (0,0) _ rfl (by (iterate 4 ((with_reducible repeat (first | refine zQc ?_ _ | refine zQe ?_ | refine zQd ?_ _));refine zQi (cs := #[.int .i64 0,.int .u64 0,.string (⟨#[]⟩ : ByteArray),.int .i64 0]) ?_ _ _ rfl));exact pK aA.out) Tryz.underlying25 rfl (by kernel_rfl)) rfl ?_
          exact ⟨pE,pB⟩
def value_Normal.f (k : Nat) (a0_0 : Int) (a0_1 : Int) (a0_2 : ByteArray) (a0_3 : Int) : Option (Int × Int × ByteArray × Int) := (value_normal.f k a0_0 a0_1 a0_2 a0_3).bind fun bt107 => (some (bt107.1,bt107.2.1,bt107.2.2.1,bt107.2.2.2))
theorem value_Normal.calls (k : Nat) (a0_0 : Int) (a0_1 : Int) (a0_2 : ByteArray) (a0_3 : Int) (r1 : Int) (r2 : Int) (r3 : ByteArray) (r4 : Int) (w : World) (h : value_Normal.f k a0_0 a0_1 a0_2 a0_3 = some (r1,r2,r3,r4)) :
  Calls Tryz.prog 18 #[.agg #[.int .i64 a0_0,.int .u64 a0_1,.string a0_2,.int .i64 a0_3]] w fun e w' => e = .returned (.agg #[.int .i64 r1,.int .u64 r2,.string r3,.int .i64 r4]) ∧ Below w.heap.size w w' := by
 have hu25 := Tryz.underlying25;have HB := am (Below.refl w.heap.size w);have H := h;unfold value_Normal.f at H;clear h;obtain ⟨⟨aH,aI,aJ,aK⟩,A2,H⟩ := oB H;(try dsimp only at H);simp only [Option.some.injEq,Prod.mk.injEq] at H;obtain ⟨rfl,rfl,rfl,rfl⟩ := H;go_enter Tryz.func18,Tryz.ntmps18;go_wp2_with (first | ((with_reducible refine zQp (N := 1) rfl ?_);refine zQC ?hg (N := 1) ?hd (cs := #[.int .i64 a0_0,.int .u64 a0_1,.string a0_2,.int .i64 a0_3]) (t := 25) ?hr ?_;(case hd => rfl);(case hg => rfl);(case hr => first | (go_simp;done) | (go_simp;rfl));intro aD hg w3 hbox hb;have aA := am (hbox);have GW105 := am ((by rw [hg];exact (zQa pB) : w.heap.size ≤ aD));have GE105 := am ((by rw [hg];exact (zQa pB) : w.heap.size ≤ aD));replace HB := bS hb;clear hb hbox hg) | ((with_reducible refine zQp (N := 2) rfl ?_);refine zQC ?hg (N := 2) ?hd (cs := #[.int .i64 0,.int .u64 0,.string (⟨#[]⟩ : ByteArray),.int .i64 0]) (t := 25) ?hr ?_;(case hd => rfl);(case hg => rfl);(case hr => first | (go_simp;done) | (go_simp;rfl));intro aC hg w4 hbox hb;have aG := am (hbox);have GW106 := am ((by rw [hg];exact (zQa pB) : w.heap.size ≤ aC));have GE106 := am ((by rw [hg];exact (zQa pB) : w.heap.size ≤ aC));have NB105_106 := am ((by rw [hg];exact Nat.ne_of_lt (pkl aA.out) : aD ≠ aC));have NB106_105 := am ((by rw [hg];exact Nat.ne_of_gt (pkl aA.out) : aC ≠ aD));replace aA := am (pkb aA.out hb);replace HB := bS hb;clear hb hbox hg;have hnb5 := NB105_106.out;have hnc5 := NB106_105.out;have q6 := cf4 aA.out) | ((with_reducible refine zQb (f := 33) rfl ?_);refine zQg (some 4) rfl rfl Tryz.func33 (by kernel_rfl) rfl #[.agg #[.int .i64 a0_0,.int .u64 a0_1,.string a0_2,.int .i64 a0_3]] rfl pM ?_;(with_reducible refine (value_normal.calls k a0_0 a0_1 a0_2 a0_3 aH aI aJ aK _ A2.out).mono ?_);rintro e w7 ⟨rfl,hb⟩;refine ⟨_,rfl,?_⟩;replace aA := am (pkb aA.out hb);replace aG := am (pkb aG.out hb);replace HB := bS hb;(try clear hb);have q8 := cf4 aG.out))
 refine bodyPost_ret (results_cell_row rfl _ _ aC 25 #[.int .i64 aH,.int .u64 aI,.string aJ,.int .i64 aK] (0,0) _ rfl (by (with_reducible repeat (first | refine zQc ?_ _ | refine zQe ?_ | refine zQd ?_ _));refine zQi (cs := #[.int .i64 aH,.int .u64 aI,.string aJ,.int .i64 0]) ?_ 3 _ rfl;(with_reducible repeat (first | refine zQc ?_ _ | refine zQe ?_ | refine zQd ?_ _));refine zQi (cs := #[.int .i64 aH,.int .u64 aI,.string (⟨#[]⟩ : ByteArray),.int .i64 0]) ?_ 2 _ rfl;(with_reducible repeat (first | refine zQc ?_ _ | refine zQe ?_ | refine zQd ?_ _));refine zQi (cs := #[.int .i64 aH,.int .u64 0,.string (⟨#[]⟩ : ByteArray),.int .i64 0]) ?_ 1 _ rfl;(with_reducible repeat (first | refine zQc ?_ _ | refine zQe ?_ | refine zQd ?_ _));refine zQi (cs := #[.int .i64 0,.int .u64 0,.string (⟨#[]⟩ : ByteArray),.int .i64 0]) ?_ 0 _ rfl;exact pK aG.out) Tryz.underlying25 rfl (by kernel_rfl)) rfl ?_
 exact ⟨pE,pB⟩
end Go.Proofs.YtongfmeediokmaaGreatDoor.Pv
end
section
namespace Go.Proofs.YtongfmeediokmaaGreatDoor.Pr
open Go.RowKit YtongfmeediokmaaGreatDoor.Pv YtongfmeediokmaaGreatDoorW.PrintWords YtongfmeediokmaaGreatDoorW.PrintLast YtongfmeediokmaaGreatDoorW.PrintMore
def value_name.f (k : Nat) (a0_0 : Int) (a0_1 : Int) (a0_2 : ByteArray) (a0_3 : Int) : Option ByteArray := (value_normal.f k a0_0 a0_1 a0_2 a0_3).bind fun t => if 0 ≤ t.1 ∧ t.1 < 9 then some (zJn.getD t.1.toNat ⟨#[]⟩) else none
theorem value_name.mono : ∀ a0 a1 a2 a3 k,LeO (value_name.f k a0 a1 a2 a3) (value_name.f (k + 1) a0 a1 a2 a3) := by
 intro a0 a1 a2 a3 k;unfold value_name.f;exact LeO.bind (value_normal.mono _ _ _ _ _) (fun _ => LeO.refl _)
theorem zHW (a b : Int) (c : ByteArray) (d : Int) (W : World) : (Instr.field 25 (.agg #[.int .i64 a,.int .u64 b,.string c,.int .i64 d]) 0).run Tryz.prog W = .ok (.int .i64 a) W := by kernel_rfl
set_option maxHeartbeats 800000 in
set_option maxRecDepth 100000 in
theorem value_name.calls (k : Nat) (a0_0 : Int) (a0_1 : Int) (a0_2 : ByteArray) (a0_3 : Int) (r : ByteArray) (w : World) (hG : zXO w) (h : value_name.f k a0_0 a0_1 a0_2 a0_3 = some r) :
  Calls Tryz.prog 32 #[.agg #[.int .i64 a0_0,.int .u64 a0_1,.string a0_2,.int .i64 a0_3]] w fun e w' => e = .returned (.string r) ∧ Below w.heap.size w w' := by
 unfold value_name.f at h;obtain ⟨⟨t0,t1,t2,t3⟩,h1,h2⟩ := Option.bind_eq_some_iff.mp h;dsimp only at h2;by_cases hb : 0 ≤ t0 ∧ t0 < 9
 ·rw [if_pos hb] at h2;have H1 := Aside0.mk h1;have H2 := Aside0.mk (Option.some.inj h2);have HG := Aside0.mk hG;have hfld := zHW;have q1 : (0 ≤ t0) = True := eq_true hb.1;have q2 : (t0 < 9) = True := eq_true hb.2;have HT := Aside0.mk (show t0.toNat < 9 by omega);clear h h1 h2 hG hb;go_enter Tryz.func32,Tryz.ntmps32;go_wp2_with (go_at_call 33;refine (value_normal.calls k _ _ _ _ t0 t1 t2 t3 _ H1.out).mono ?_;rintro e w1 ⟨rfl,hb1⟩;have HB1 := Aside0.mk hb1;clear hb1;have hq := (zZr (zZr HG.out ((Below.refl w.heap.size w).alloc (Nat.le_refl _) _)) HB1.out).2 t0.toNat HT.out)
  go_ret
  exact ⟨congrArg (fun s => Ending.returned (.string s)) ((List.getD_eq_getElem?_getD ..).symm.trans H2.out),zWb ((Below.refl w.heap.size w).alloc (Nat.le_refl _) _) HB1.out⟩
 ·rw [if_neg hb] at h2
  cases h2
end Go.Proofs.YtongfmeediokmaaGreatDoor.Pr
end
section
namespace Go.Proofs.YtongfmeediokmaaGreatDoor.Pr
open Go.RowKit YtongfmeediokmaaGreatDoorW.PrintWords YtongfmeediokmaaGreatDoorW.PrintLast YtongfmeediokmaaGreatDoorW.PrintMore YtongfmeediokmaaGreatDoor.Pv
attribute [local go_sem] zXb zQZ zXj zXi zQP zQO zXa zQY
set_option maxHeartbeats 8000000
set_option maxRecDepth 100000
theorem eqA25 (d : Nat) (w : World) (x0 y0 : Int) (x1 y1 : Int) (x2 y2 : ByteArray) (x3 y3 : Int) :
  (Op.equalIn (d + 2) 25 (.agg #[.int .i64 x0,.int .u64 x1,.string x2,.int .i64 x3]) (.agg #[.int .i64 y0,.int .u64 y1,.string y2,.int .i64 y3])).run Tryz.prog w = .ok (x0 == y0 && (x1 == y1 && (x2.toList == y2.toList && (x3 == y3)))) w := by
 refine zFA Tryz.underlying25 (by kernel_rfl) ?_
 refine zWw (by rfl) (by go_simp;rfl) (by go_simp;rfl) (by go_simp) ?_
 refine zWw (by rfl) (by go_simp;rfl) (by go_simp;rfl) (by go_simp) ?_
 refine zWw (by rfl) (by go_simp;rfl) (by go_simp;rfl) (by go_simp) ?_
 exact zGP (by rfl) (by go_simp;rfl) (by go_simp;rfl) (by go_simp)
def b_trim.l0 : Nat → List Int → Option (List Int)
 | 0,_ => none
 | k + 1,x0 => if (x0.length : Int) > 0 then (if 0 ≤ (wrap64 ((x0.length : Int) - 1)) then (if (wrap64 ((x0.length : Int) - 1)) < (x0.length : Int) then (if (rd x0 (wrap64 ((x0.length : Int) - 1))) = 0 then (if (wrap64 ((x0.length : Int) - 1)) ≤ (x0.length : Int) then (b_trim.l0 k (x0.take ((wrap64 ((x0.length : Int) - 1)) : Int).toNat)) else (none)) else (some x0)) else (none)) else (none)) else (some x0)
def b_trim.f (k : Nat) (l0 : List Int) : Option (List Int) := b_trim.l0 k l0
theorem b_trim.mono_l : ∀ k,(∀ y0,LeO (b_trim.l0 k y0) (b_trim.l0 (k + 1) y0))
 | 0 => fun _ r h => by simp [b_trim.l0] at h
 | k + 1 => by
  have ih0 := b_trim.mono_l k
  ·intro y0;unfold b_trim.l0;repeat' first | (with_reducible exact ih0 _) | (with_reducible exact LeO.refl _) | (with_reducible exact LeO.none _) | (with_reducible refine LeO.ite ?_ ?_) | (with_reducible refine LeO.bind ?_ (fun _ => ?_))
theorem b_trim.mono : ∀ a0 k,LeO (b_trim.f k a0) (b_trim.f (k + 1) a0) := by
 intro a0 k;have ih0 := b_trim.mono_l k;unfold b_trim.f;repeat' first | (with_reducible exact ih0 _) | (with_reducible exact LeO.refl _) | (with_reducible exact LeO.none _) | (with_reducible refine LeO.ite ?_ ?_) | (with_reducible refine LeO.bind ?_ (fun _ => ?_))
theorem b_trim.calls (k : Nat) (P0_ : Nat → Prop) (A0 : Option Addr) (c0 : Nat) (l0 : List Int) (r : List Int) (w : World) (hs0 : Kd.V (Kd.int .u32) 72 w w.heap.size (fun k_ => P0_ k_) (.slice A0 l0.length c0) l0) (h : b_trim.f k l0 = some r) :
  Calls Tryz.prog 85 #[.slice A0 l0.length c0] w fun e w' => ∃ v0_ : Value,e = .returned (v0_) ∧ Kd.V (Kd.int .u32) 72 w' w.heap.size (fun k_ => (P0_ k_ ∨ w.heap.size ≤ k_)) v0_ r ∧ Below w.heap.size w w' := by
 have bE := am (show Kd.V (Kd.int .u32) 72 w w.heap.size (fun k_ => (P0_ k_ ∨ w.heap.size ≤ k_)) (.slice A0 l0.length c0) l0 from Kd.zQj hs0 (fun k_ hk => .inl hk));have HB := am (Below.refl w.heap.size w);have H : (b_trim.l0 k l0) = some r := h;clear h;have H' := am H;clear H;go_enter Tryz.func85,Tryz.ntmps85;go_wp2
 go_loopg [0] k (fun kq v0 w' => ∃ (aA : List Int),Aside0 (b_trim.l0 kq aA = some r) ∧ Aside0 (kq ≤ k) ∧ Aside0 (Kd.V (Kd.int .u32) 72 w' w.heap.size (fun k_ => (P0_ k_ ∨ w.heap.size ≤ k_)) v0 aA) ∧ Aside0 (Below w.heap.size w w'))
 case atStart => exact ⟨(l0),H',⟨Nat.le_refl _⟩,⟨by exact pV bE.out⟩,⟨pB⟩⟩
 case round =>
  clear H';obtain ⟨aA,HA,aW,aD,HB⟩ := hrel
  cases gk with
  | zero => exact absurd HA.out (by simp [b_trim.l0])
  | succ k1 =>
   have H := HA.out;clear HA;simp only [b_trim.l0] at H;rcases iT H with ⟨c2,H⟩ | ⟨c2,H⟩
   ·have aX : decide (0 < (aA.length : Int)) = true := decide_eq_true c2;have aY : decide (0 < aA.length) = true := decide_eq_true zO;clear c2;obtain ⟨aC,aJ⟩ : ∃ j_ : Int,(wrap64 ((aA.length : Int) - 1)) = j_ := ⟨_,rfl⟩;(replace H : (if 0 ≤ (aC) then (if (aC) < (aA.length : Int) then (if (rd aA (aC)) = 0 then (if (aC) ≤ (aA.length : Int) then (b_trim.l0 k1 (aA.take ((aC) : Int).toNat)) else (none)) else (some aA)) else (none)) else (none)) = some r := by first | (rw [aJ] at H;exact H) | (simp only [aJ] at H ⊢;exact H));have bG : (IntKind.i64.wrap ((aA.length : Int) - 1)) = aC := (i64_w _).trans aJ;obtain ⟨c4,H⟩ := iN H;have bH : decide (0 ≤ (aC)) = true := decide_eq_true c4;clear c4;obtain ⟨c5,H⟩ := iN H;have bI : decide ((aC) < (aA.length : Int)) = true := decide_eq_true c5;clear c5;rcases iT H with ⟨c6,H⟩ | ⟨c6,H⟩
    ·have aZ : ((rd aA (aC)) == 0) = true := beq_iff_eq.mpr c6;have bA : ((rd aA (aC)) != 0) = false := bne_eq_false_iff_eq.mpr c6;clear c6;have bJ := eq_true (pD : 0 ≤ (aC));obtain ⟨c8,H⟩ := iN H;have bK := eq_true c8;have bL : decide ((aC) ≤ (aA.length : Int)) = true := decide_eq_true c8;clear c8;obtain ⟨aI,aK⟩ : ∃ y_ : List Int,y_ = (aA.take ((aC) : Int).toNat) := ⟨_,rfl⟩;replace H : (b_trim.l0 k1 aI) = some r := pI aK H;have aN := am aK;clear aK;have H' := am H;clear H;obtain ⟨bQ,aQ,bF⟩ := Kd.zQD aD.out;subst bF;have aG : 0 ≤ ((aC) : Int) := pD;have aH : (aC) < (aA.length : Int) := pD;obtain ⟨ad101,e101,aT⟩ := Kd.zXh (Kd.zQh aD.out).2.2 (aC) aG aH
     cases e101
     replace aG := eq_true aG;replace aH := eq_true aH;have aU : ((aC) : Int) ≤ ((aA.length : Int) : Int) := pD;obtain ⟨i010,hi010,_,hsz10,_⟩ := info_parts zXV;have hroom10 : aA.length ≤ aQ := (Kd.zQh aD.out).2.1;have hC10 : Kd.F (Kd.int .u32) _ _ (some ad101) aA.length aA := (Kd.V_at (base := w.heap.size) aD.out).2.2;have hcut10 := zHr (P := Tryz.prog) 70 72 .i64 Tryz.underlying70 hi010 (some ad101) aA.length aQ (aC) pD aU hroom10;have hr10 := Kd.zHu (m := ((aC) : Int).toNat) hC10 zO;have aM : aI.length = ((aC) : Int).toNat := (by rw [aN.out,List.length_take];omega);rw [← aN.out] at hr10;rw [← aM] at hcut10;have aV := am (show Kd.V (Kd.int .u32) 72 _ w.heap.size _ (.slice (some ad101) aI.length aQ) aI from Kd.V_mk zO hr10);have HC106 := am (show aI.length ≤ aQ from by omega);clear hr10 hC10 hroom10 hi010 hsz10;have KY10 := am aM;clear aM;replace aU := eq_true aU;go_wp2
     go_roundg k1
     case measure => have := aW.out;omega
     case rel => exact ⟨(aI),H',⟨by have := aW.out;omega⟩,⟨by exact pV aV.out⟩,⟨pB⟩⟩
    ·have aZ : ((rd aA (aC)) == 0) = false := beq_eq_false_iff_ne.mpr c6;have bA : ((rd aA (aC)) != 0) = true := bne_iff_ne.mpr c6;obtain rfl := Option.some.inj H;obtain ⟨bM,bN,bB⟩ := Kd.zQD aD.out;subst bB;have aG : 0 ≤ ((aC) : Int) := pD;have aH : (aC) < (aA.length : Int) := pD;obtain ⟨ad101,e101,aT⟩ := Kd.zXh (Kd.zQh aD.out).2.2 (aC) aG aH
     cases e101
     replace aG := eq_true aG;replace aH := eq_true aH;go_wp2
     go_ret
     exact ⟨_,by first | rfl | (simp [errW_none,errW_some] <;> rfl) | (simp only [← aJ];first | rfl | (simp [errW_none,errW_some] <;> rfl)) | (simp [*,errW_none,errW_some] <;> rfl),by (with_reducible repeat (first | apply Kd.zQx | apply Kd.zQu | apply Kd.zQy));exact aD.out,pB⟩
   ·have aX : decide (0 < (aA.length : Int)) = false := decide_eq_false c2;have aY : decide (0 < aA.length) = false := decide_eq_false zO;clear c2;obtain rfl := Option.some.inj H;obtain ⟨bO,bP,bC⟩ := Kd.zQD aD.out;subst bC;go_wp2
    go_ret
    exact ⟨_,pE,by (with_reducible repeat (first | apply Kd.zQx | apply Kd.zQu | apply Kd.zQy));exact aD.out,pB⟩
def b_plus.l0 : Nat → List Int → List Int → Int → List Int → Int → Int → Option (List Int)
 | 0,_,_,_,_,_,_ => none
 | k + 1,x1,x5,x6,x20,x21,x22 => if x22 < x21 then (if 0 ≤ x22 then (if x22 < (x20.length : Int) then (if x22 < (x1.length : Int) then (if x5.length < 35184372088832 then (b_plus.l0 k x1 (x5 ++ [(IntKind.u64.wrap ((IntKind.u64.wrap (x6 + (IntKind.u64.wrap (rd x20 x22)))) + (IntKind.u64.wrap (rd x1 x22)))) % 4294967296]) ((IntKind.u64.wrap ((IntKind.u64.wrap (x6 + (IntKind.u64.wrap (rd x20 x22)))) + (IntKind.u64.wrap (rd x1 x22)))) / 4294967296) x20 x21 (wrap64 (x22 + 1))) else (none)) else (if x5.length < 35184372088832 then (b_plus.l0 k x1 (x5 ++ [(IntKind.u64.wrap (x6 + (IntKind.u64.wrap (rd x20 x22)))) % 4294967296]) ((IntKind.u64.wrap (x6 + (IntKind.u64.wrap (rd x20 x22)))) / 4294967296) x20 x21 (wrap64 (x22 + 1))) else (none))) else (none)) else (none)) else (if x5.length < 35184372088832 then ((b_trim.f k (x5 ++ [(x6) % 4294967296])).bind fun t121 => (some t121)) else (none))
def b_plus.fg (k : Nat) (l0 : List Int) (l1 : List Int) : Option (List Int) := if 0 ≤ wrap64 ((l0.length : Int) + 1) then (if (wrap64 ((l0.length : Int) + 1) : Int).toNat ≤ 70368744177664 then (b_plus.l0 k l1 (List.replicate 0 0) 0 l0 (l0.length : Int) 0) else (none)) else (none)
theorem b_plus.zGW (k : Nat) (A0 : Option Addr) (c0 : Nat) (l0 : List Int) (A1 : Option Addr) (c1 : Nat) (l1 : List Int) (r : List Int) (w : World) (hr0 : Kd.C (Kd.int .u32) w A0 l0.length l0) (hc0 : l0.length ≤ c0) (hr1 : Kd.C (Kd.int .u32) w A1 l1.length l1) (hc1 : l1.length ≤ c1) (hge : ¬ (l0.length : Int) < (l1.length : Int)) (h : b_plus.fg k l0 l1 = some r) :
  Calls Tryz.prog 73 #[.slice A0 l0.length c0,.slice A1 l1.length c1] w fun e w' => ∃ v0_ : Value,e = .returned (v0_) ∧ Kd.V (Kd.int .u32) 72 w' w.heap.size (fun k_ => (w.heap.size ≤ k_)) v0_ r ∧ Below w.heap.size w w' := by
 have cgeb : decide ((l0.length : Int) < (l1.length : Int)) = false := decide_eq_false hge;have HR0 := am hr0;have HC0 := am hc0;clear hr0 hc0;have HR1 := am hr1;have HC1 := am hc1;clear hr1 hc1;have HB := am (Below.refl w.heap.size w);have H := h;unfold b_plus.fg at H;clear h;obtain ⟨c3,H⟩ := iN H;have bZ := eq_true c3;have cB : decide (0 ≤ wrap64 ((l0.length : Int) + 1)) = true := decide_eq_true c3;obtain ⟨c4,H⟩ := iN H;have cK := eq_true c4;have cO : decide ((wrap64 ((l0.length : Int) + 1) : Int).toNat ≤ 70368744177664) = true := decide_eq_true c4;obtain ⟨bC,aN⟩ : ∃ y_ : List Int,y_ = (List.replicate 0 0) := ⟨_,rfl⟩;replace H : (b_plus.l0 k l1 bC 0 l0 (l0.length : Int) 0) = some r := pI aN H;have bA := am aN;clear aN;have H' := am H;clear H;go_enter Tryz.func73,Tryz.ntmps73;go_wp2_with (first | ((with_reducible refine zQp (N := 19) rfl ?_);refine zKA (Kd.int .u32) _ 72 rfl (N := 19) rfl 70 _ _ rfl 0 (wrap64 ((l0.length : Int) + 1)) rfl rfl Tryz.underlying70 (.int .u32 0) 4 zXV rfl (by decide) zO 0 (ok := fun _ => True) (okp := fun _ => True) rfl (fun _ hk => hk) trivial zO pD (Nat.le_trans (Nat.mul_le_mul_right _ (pD : (wrap64 ((l0.length : Int) + 1)).toNat ≤ 70368744177664)) zO) (Below.refl _ _) (Nat.le_refl _) ?_;intro dC w5 ho6 hb hg_ hnew_;clear hg_ hnew_;(first | rw [← bA.out] at ho6 | (simp only [Int.reduceToNat] at ho6;rw [← bA.out] at ho6));have bI := am (Kd.zQn (Kd.zXu (M := fun k_ => (w.heap.size ≤ k_)) ho6 (zQa pB) (fun k_ h_ => h_)) (zQa pB));replace HB := bS hb;clear hb ho6))
 go_loopg [5,6,22] k (fun kq v5 v6 v22 w' => ∃ (aG : List Int) (aC : Int) (aA : Int),v6 = .int .u64 aC ∧ v22 = .int .i64 aA ∧ Aside0 (b_plus.l0 kq l1 aG aC l0 (l0.length : Int) aA = some r) ∧ Aside0 (kq ≤ k) ∧ Aside0 (Kd.R (Kd.int .u32) 72 w' w.heap.size (fun k_ => (w.heap.size ≤ k_)) v5 aG) ∧ Aside0 (Below w.heap.size w w'))
 case atStart => exact ⟨(bC),(0),(0),pS,pS,H',⟨Nat.le_refl _⟩,⟨by (with_reducible repeat (first | apply Kd.zQq | apply Kd.zQo | apply Kd.zQz));exact Kd.zQs bI.out (fun _ hk => hk.1)⟩,⟨pB⟩⟩
 case round =>
  clear H';(try clear c1 c3 bZ cB c4 cK cO);obtain ⟨aG,aC,aA,rfl,rfl,HA,bB,aK,HB⟩ := hrel
  cases gk with
  | zero => exact absurd HA.out (by simp [b_plus.l0])
  | succ k1 =>
   have H := HA.out;clear HA;simp only [b_plus.l0] at H;rcases iT H with ⟨c7,H⟩ | ⟨c7,H⟩
   ·have cZ : decide (aA < (l0.length : Int)) = true := decide_eq_true c7;clear c7;obtain ⟨c8,H⟩ := iN H;have dD : decide (0 ≤ aA) = true := decide_eq_true c8;clear c8;obtain ⟨c9,H⟩ := iN H;have dE : decide (aA < (l0.length : Int)) = true := decide_eq_true c9;clear c9;rcases iT H with ⟨aW,H⟩ | ⟨aW,H⟩
    ·have bJ : decide (aA < (l1.length : Int)) = true := decide_eq_true aW;clear aW;obtain ⟨bW,H⟩ := iN H;have bK := am bW;clear bW;obtain ⟨bE,aQ⟩ : ∃ y_ : List Int,y_ = (aG ++ [(IntKind.u64.wrap ((IntKind.u64.wrap (aC + (IntKind.u64.wrap (rd l0 aA)))) + (IntKind.u64.wrap (rd l1 aA)))) % 4294967296]) := ⟨_,rfl⟩;replace H : (b_plus.l0 k1 l1 bE ((IntKind.u64.wrap ((IntKind.u64.wrap (aC + (IntKind.u64.wrap (rd l0 aA)))) + (IntKind.u64.wrap (rd l1 aA)))) / 4294967296) l0 (l0.length : Int) (wrap64 (aA + 1))) = some r := pI aQ H;have bL := am aQ;clear aQ;have H' := am H;clear H;have aH : 0 ≤ (aA : Int) := pD;have aI : aA < (l0.length : Int) := pD;obtain ⟨ad110,e110,aD⟩ := Kd.zXh HR0.out aA aH aI
     cases e110
     replace aD := (HB.out.cell (World.block_lt_of_cell? w _ aD)).trans aD;replace aH := eq_true aH;replace aI := eq_true aI;have aX : 0 ≤ (aA : Int) := pD;have aY : aA < (l1.length : Int) := pD;obtain ⟨ad111,e111,aM⟩ := Kd.zXh HR1.out aA aX aY
     cases e111
     replace aM := (HB.out.cell (World.block_lt_of_cell? w _ aM)).trans aM;replace aX := eq_true aX;replace aY := eq_true aY;go_wp2_with (first | ((with_reducible refine zQB (b := .append) (xs := #[.tmp 42,.tmp 45]) rfl ?_);at_builtin;refine Kd.zQW (Kd.int .u32) (w0 := w) w.heap.size rfl (.tmp 42) (.tmp 45) 70 72 (.int .u32 0) 4 rfl Tryz.underlying70 zXV rfl (by decide) zO u5 aG ((IntKind.u64.wrap ((IntKind.u64.wrap (aC + (IntKind.u64.wrap (rd l0 aA)))) + (IntKind.u64.wrap (rd l1 aA)))) % 4294967296) [.int .u32 ((IntKind.u64.wrap ((IntKind.u64.wrap (aC + (IntKind.u64.wrap (rd l0 aA)))) + (IntKind.u64.wrap (rd l1 aA)))) % 4294967296)] (fun k_ => (w.heap.size ≤ k_)) (fun _ => False) rfl rfl ?aP (fun _ hk => hk.elim) ?aF ?aO ?aB ?aS ?aL ?_;(case aP => exact rfl);(case aB => exact pB);(case aF => exact (fun k_ hk => (Nat.le_trans (zQa pB) hk)));(case aO => exact (pR aK.out));(case aS => exact (zQa pB));(case aL => have := bK.out;omega);intro dF dJ ho hb hg hat;rw [← bL.out] at ho;replace HB := am (hb);have bM := am (ho);clear aK;clear ho hb hg hat))
     go_roundg k1
     case measure => have := bB.out;omega
     case rel => exact ⟨(bE),((IntKind.u64.wrap ((IntKind.u64.wrap (aC + (IntKind.u64.wrap (rd l0 aA)))) + (IntKind.u64.wrap (rd l1 aA)))) / 4294967296),(wrap64 (aA + 1)),pS,pS,H',⟨by have := bB.out;omega⟩,⟨by exact pR bM.out⟩,⟨pB⟩⟩
    ·have bJ : decide (aA < (l1.length : Int)) = false := decide_eq_false aW;clear aW;obtain ⟨bX,H⟩ := iN H;have bN := am bX;clear bX;obtain ⟨bF,aT⟩ : ∃ y_ : List Int,y_ = (aG ++ [(IntKind.u64.wrap (aC + (IntKind.u64.wrap (rd l0 aA)))) % 4294967296]) := ⟨_,rfl⟩;replace H : (b_plus.l0 k1 l1 bF ((IntKind.u64.wrap (aC + (IntKind.u64.wrap (rd l0 aA)))) / 4294967296) l0 (l0.length : Int) (wrap64 (aA + 1))) = some r := pI aT H;have bO := am aT;clear aT;have H' := am H;clear H;have aH : 0 ≤ (aA : Int) := pD;have aI : aA < (l0.length : Int) := pD;obtain ⟨ad110,e110,aD⟩ := Kd.zXh HR0.out aA aH aI
     cases e110
     replace aD := (HB.out.cell (World.block_lt_of_cell? w _ aD)).trans aD;replace aH := eq_true aH;replace aI := eq_true aI;go_wp2_with (first | ((with_reducible refine zQB (b := .append) (xs := #[.tmp 42,.tmp 45]) rfl ?_);at_builtin;refine Kd.zQW (Kd.int .u32) (w0 := w) w.heap.size rfl (.tmp 42) (.tmp 45) 70 72 (.int .u32 0) 4 rfl Tryz.underlying70 zXV rfl (by decide) zO u5 aG ((IntKind.u64.wrap (aC + (IntKind.u64.wrap (rd l0 aA)))) % 4294967296) [.int .u32 ((IntKind.u64.wrap (aC + (IntKind.u64.wrap (rd l0 aA)))) % 4294967296)] (fun k_ => (w.heap.size ≤ k_)) (fun _ => False) rfl rfl ?aP (fun _ hk => hk.elim) ?aF ?aO ?aB ?aS ?aL ?_;(case aP => exact rfl);(case aB => exact pB);(case aF => exact (fun k_ hk => (Nat.le_trans (zQa pB) hk)));(case aO => exact (pR aK.out));(case aS => exact (zQa pB));(case aL => have := bN.out;omega);intro dG dK ho hb hg hat;rw [← bO.out] at ho;replace HB := am (hb);have bP := am (ho);clear aK;clear ho hb hg hat))
     go_roundg k1
     case measure => have := bB.out;omega
     case rel => exact ⟨(bF),((IntKind.u64.wrap (aC + (IntKind.u64.wrap (rd l0 aA)))) / 4294967296),(wrap64 (aA + 1)),pS,pS,H',⟨by have := bB.out;omega⟩,⟨by exact pR bP.out⟩,⟨pB⟩⟩
   ·have cZ : decide (aA < (l0.length : Int)) = false := decide_eq_false c7;clear c7;obtain ⟨bY,H⟩ := iN H;have bQ := am bY;clear bY;obtain ⟨aU,aV⟩ : ∃ y_ : List Int,y_ = (aG ++ [(aC) % 4294967296]) := ⟨_,rfl⟩;replace H : ((b_trim.f k1 aU).bind fun aZ => (some aZ)) = some r := pI aV H;have bT := am aV;clear aV;obtain ⟨aZ,dB,H⟩ := oB H;obtain rfl := Option.some.inj H;go_wp2_with (first | ((with_reducible refine zQB (b := .append) (xs := #[.tmp 50,.tmp 53]) rfl ?_);at_builtin;refine Kd.zQW (Kd.int .u32) (w0 := w) w.heap.size rfl (.tmp 50) (.tmp 53) 70 72 (.int .u32 0) 4 rfl Tryz.underlying70 zXV rfl (by decide) zO u5 aG ((aC) % 4294967296) [.int .u32 ((aC) % 4294967296)] (fun k_ => (w.heap.size ≤ k_)) (fun _ => False) rfl rfl ?aP (fun _ hk => hk.elim) ?aF ?aO ?aB ?aS ?aL ?_;(case aP => exact rfl);(case aB => exact pB);(case aF => exact (fun k_ hk => (Nat.le_trans (zQa pB) hk)));(case aO => exact (pR aK.out));(case aS => exact (zQa pB));(case aL => have := bQ.out;omega);intro dH dL ho hb hg hat;rw [← bT.out] at ho;replace HB := am (hb);have aJ := am (ho);clear aK;clear ho hb hg hat;obtain ⟨bG,bH,dA⟩ := Kd.zQt aJ.out;subst dA) | ((with_reducible refine zQb (f := 85) rfl ?_);refine zQg (some 55) rfl rfl Tryz.func85 (by kernel_rfl) rfl #[.slice bG aU.length bH] rfl pM ?_;(with_reducible refine (b_trim.calls k1 (fun k_ => some k_ = (.slice bG aU.length bH : Value).ownBlock) _ _ aU aZ _ ?side1 dB.out).mono ?_);(case side1 => exact Kd.R_V (Kd.zXs rfl (aJ.out)));rintro e dM ⟨dI,rfl,ho0,hb⟩;refine ⟨_,rfl,?_⟩;have bV := am (Kd.zQQ (Kd.zQj (ok' := fun k_ => (w.heap.size ≤ k_)) ho0 (fun k_ hk_ => Or.elim hk_ (fun hs_ => ((aJ.out).1 k_ hs_.symm)) (fun hn_ => (Nat.le_trans (zQa pB) hn_)))) (zQa pB));replace aJ := am (Kd.zQv (pR aJ.out) hb);replace HB := bS hb;(try clear hb);(try clear ho0)))
    go_ret
    exact ⟨_,pE,by (with_reducible repeat (first | apply Kd.zQx | apply Kd.zQu | apply Kd.zQy));exact bV.out,pB⟩
theorem b_plus.zGV (k : Nat) (A0 : Option Addr) (c0 : Nat) (l0 : List Int) (A1 : Option Addr) (c1 : Nat) (l1 : List Int) (r : List Int) (w : World) (hr0 : Kd.C (Kd.int .u32) w A0 l0.length l0) (hc0 : l0.length ≤ c0) (hr1 : Kd.C (Kd.int .u32) w A1 l1.length l1) (hc1 : l1.length ≤ c1) (hge : (l1.length : Int) < (l0.length : Int)) (h : b_plus.fg k l0 l1 = some r) :
  Calls Tryz.prog 73 #[.slice A1 l1.length c1,.slice A0 l0.length c0] w fun e w' => ∃ v0_ : Value,e = .returned (v0_) ∧ Kd.V (Kd.int .u32) 72 w' w.heap.size (fun k_ => (w.heap.size ≤ k_)) v0_ r ∧ Below w.heap.size w w' := by
 have cgeb : decide ((l1.length : Int) < (l0.length : Int)) = true := decide_eq_true hge;have HR0 := am hr0;have HC0 := am hc0;clear hr0 hc0;have HR1 := am hr1;have HC1 := am hc1;clear hr1 hc1;have HB := am (Below.refl w.heap.size w);have H := h;unfold b_plus.fg at H;clear h;obtain ⟨c3,H⟩ := iN H;have bZ := eq_true c3;have cB : decide (0 ≤ wrap64 ((l0.length : Int) + 1)) = true := decide_eq_true c3;obtain ⟨c4,H⟩ := iN H;have cK := eq_true c4;have cO : decide ((wrap64 ((l0.length : Int) + 1) : Int).toNat ≤ 70368744177664) = true := decide_eq_true c4;obtain ⟨bC,aN⟩ : ∃ y_ : List Int,y_ = (List.replicate 0 0) := ⟨_,rfl⟩;replace H : (b_plus.l0 k l1 bC 0 l0 (l0.length : Int) 0) = some r := pI aN H;have bA := am aN;clear aN;have H' := am H;clear H;go_enter Tryz.func73,Tryz.ntmps73;go_wp2_with (first | ((with_reducible refine zQp (N := 19) rfl ?_);refine zKA (Kd.int .u32) _ 72 rfl (N := 19) rfl 70 _ _ rfl 0 (wrap64 ((l0.length : Int) + 1)) rfl rfl Tryz.underlying70 (.int .u32 0) 4 zXV rfl (by decide) zO 0 (ok := fun _ => True) (okp := fun _ => True) rfl (fun _ hk => hk) trivial zO pD (Nat.le_trans (Nat.mul_le_mul_right _ (pD : (wrap64 ((l0.length : Int) + 1)).toNat ≤ 70368744177664)) zO) (Below.refl _ _) (Nat.le_refl _) ?_;intro dC w5 ho6 hb hg_ hnew_;clear hg_ hnew_;(first | rw [← bA.out] at ho6 | (simp only [Int.reduceToNat] at ho6;rw [← bA.out] at ho6));have bI := am (Kd.zQn (Kd.zXu (M := fun k_ => (w.heap.size ≤ k_)) ho6 (zQa pB) (fun k_ h_ => h_)) (zQa pB));replace HB := bS hb;clear hb ho6))
 go_loopg [5,6,22] k (fun kq v5 v6 v22 w' => ∃ (aG : List Int) (aC : Int) (aA : Int),v6 = .int .u64 aC ∧ v22 = .int .i64 aA ∧ Aside0 (b_plus.l0 kq l1 aG aC l0 (l0.length : Int) aA = some r) ∧ Aside0 (kq ≤ k) ∧ Aside0 (Kd.R (Kd.int .u32) 72 w' w.heap.size (fun k_ => (w.heap.size ≤ k_)) v5 aG) ∧ Aside0 (Below w.heap.size w w'))
 case atStart => exact ⟨(bC),(0),(0),pS,pS,H',⟨Nat.le_refl _⟩,⟨by (with_reducible repeat (first | apply Kd.zQq | apply Kd.zQo | apply Kd.zQz));exact Kd.zQs bI.out (fun _ hk => hk.1)⟩,⟨pB⟩⟩
 case round =>
  clear H';(try clear c1 c3 bZ cB c4 cK cO);obtain ⟨aG,aC,aA,rfl,rfl,HA,bB,aK,HB⟩ := hrel
  cases gk with
  | zero => exact absurd HA.out (by simp [b_plus.l0])
  | succ k1 =>
   have H := HA.out;clear HA;simp only [b_plus.l0] at H;rcases iT H with ⟨c7,H⟩ | ⟨c7,H⟩
   ·have cZ : decide (aA < (l0.length : Int)) = true := decide_eq_true c7;clear c7;obtain ⟨c8,H⟩ := iN H;have dD : decide (0 ≤ aA) = true := decide_eq_true c8;clear c8;obtain ⟨c9,H⟩ := iN H;have dE : decide (aA < (l0.length : Int)) = true := decide_eq_true c9;clear c9;rcases iT H with ⟨aW,H⟩ | ⟨aW,H⟩
    ·have bJ : decide (aA < (l1.length : Int)) = true := decide_eq_true aW;clear aW;obtain ⟨bW,H⟩ := iN H;have bK := am bW;clear bW;obtain ⟨bE,aQ⟩ : ∃ y_ : List Int,y_ = (aG ++ [(IntKind.u64.wrap ((IntKind.u64.wrap (aC + (IntKind.u64.wrap (rd l0 aA)))) + (IntKind.u64.wrap (rd l1 aA)))) % 4294967296]) := ⟨_,rfl⟩;replace H : (b_plus.l0 k1 l1 bE ((IntKind.u64.wrap ((IntKind.u64.wrap (aC + (IntKind.u64.wrap (rd l0 aA)))) + (IntKind.u64.wrap (rd l1 aA)))) / 4294967296) l0 (l0.length : Int) (wrap64 (aA + 1))) = some r := pI aQ H;have bL := am aQ;clear aQ;have H' := am H;clear H;have aH : 0 ≤ (aA : Int) := pD;have aI : aA < (l0.length : Int) := pD;obtain ⟨ad110,e110,aD⟩ := Kd.zXh HR0.out aA aH aI
     cases e110
     replace aD := (HB.out.cell (World.block_lt_of_cell? w _ aD)).trans aD;replace aH := eq_true aH;replace aI := eq_true aI;have aX : 0 ≤ (aA : Int) := pD;have aY : aA < (l1.length : Int) := pD;obtain ⟨ad111,e111,aM⟩ := Kd.zXh HR1.out aA aX aY
     cases e111
     replace aM := (HB.out.cell (World.block_lt_of_cell? w _ aM)).trans aM;replace aX := eq_true aX;replace aY := eq_true aY;go_wp2_with (first | ((with_reducible refine zQB (b := .append) (xs := #[.tmp 42,.tmp 45]) rfl ?_);at_builtin;refine Kd.zQW (Kd.int .u32) (w0 := w) w.heap.size rfl (.tmp 42) (.tmp 45) 70 72 (.int .u32 0) 4 rfl Tryz.underlying70 zXV rfl (by decide) zO u5 aG ((IntKind.u64.wrap ((IntKind.u64.wrap (aC + (IntKind.u64.wrap (rd l0 aA)))) + (IntKind.u64.wrap (rd l1 aA)))) % 4294967296) [.int .u32 ((IntKind.u64.wrap ((IntKind.u64.wrap (aC + (IntKind.u64.wrap (rd l0 aA)))) + (IntKind.u64.wrap (rd l1 aA)))) % 4294967296)] (fun k_ => (w.heap.size ≤ k_)) (fun _ => False) rfl rfl ?aP (fun _ hk => hk.elim) ?aF ?aO ?aB ?aS ?aL ?_;(case aP => exact rfl);(case aB => exact pB);(case aF => exact (fun k_ hk => (Nat.le_trans (zQa pB) hk)));(case aO => exact (pR aK.out));(case aS => exact (zQa pB));(case aL => have := bK.out;omega);intro dF dJ ho hb hg hat;rw [← bL.out] at ho;replace HB := am (hb);have bM := am (ho);clear aK;clear ho hb hg hat))
     go_roundg k1
     case measure => have := bB.out;omega
     case rel => exact ⟨(bE),((IntKind.u64.wrap ((IntKind.u64.wrap (aC + (IntKind.u64.wrap (rd l0 aA)))) + (IntKind.u64.wrap (rd l1 aA)))) / 4294967296),(wrap64 (aA + 1)),pS,pS,H',⟨by have := bB.out;omega⟩,⟨by exact pR bM.out⟩,⟨pB⟩⟩
    ·have bJ : decide (aA < (l1.length : Int)) = false := decide_eq_false aW;clear aW;obtain ⟨bX,H⟩ := iN H;have bN := am bX;clear bX;obtain ⟨bF,aT⟩ : ∃ y_ : List Int,y_ = (aG ++ [(IntKind.u64.wrap (aC + (IntKind.u64.wrap (rd l0 aA)))) % 4294967296]) := ⟨_,rfl⟩;replace H : (b_plus.l0 k1 l1 bF ((IntKind.u64.wrap (aC + (IntKind.u64.wrap (rd l0 aA)))) / 4294967296) l0 (l0.length : Int) (wrap64 (aA + 1))) = some r := pI aT H;have bO := am aT;clear aT;have H' := am H;clear H;have aH : 0 ≤ (aA : Int) := pD;have aI : aA < (l0.length : Int) := pD;obtain ⟨ad110,e110,aD⟩ := Kd.zXh HR0.out aA aH aI
     cases e110
     replace aD := (HB.out.cell (World.block_lt_of_cell? w _ aD)).trans aD;replace aH := eq_true aH;replace aI := eq_true aI;go_wp2_with (first | ((with_reducible refine zQB (b := .append) (xs := #[.tmp 42,.tmp 45]) rfl ?_);at_builtin;refine Kd.zQW (Kd.int .u32) (w0 := w) w.heap.size rfl (.tmp 42) (.tmp 45) 70 72 (.int .u32 0) 4 rfl Tryz.underlying70 zXV rfl (by decide) zO u5 aG ((IntKind.u64.wrap (aC + (IntKind.u64.wrap (rd l0 aA)))) % 4294967296) [.int .u32 ((IntKind.u64.wrap (aC + (IntKind.u64.wrap (rd l0 aA)))) % 4294967296)] (fun k_ => (w.heap.size ≤ k_)) (fun _ => False) rfl rfl ?aP (fun _ hk => hk.elim) ?aF ?aO ?aB ?aS ?aL ?_;(case aP => exact rfl);(case aB => exact pB);(case aF => exact (fun k_ hk => (Nat.le_trans (zQa pB) hk)));(case aO => exact (pR aK.out));(case aS => exact (zQa pB));(case aL => have := bN.out;omega);intro dG dK ho hb hg hat;rw [← bO.out] at ho;replace HB := am (hb);have bP := am (ho);clear aK;clear ho hb hg hat))
     go_roundg k1
     case measure => have := bB.out;omega
     case rel => exact ⟨(bF),((IntKind.u64.wrap (aC + (IntKind.u64.wrap (rd l0 aA)))) / 4294967296),(wrap64 (aA + 1)),pS,pS,H',⟨by have := bB.out;omega⟩,⟨by exact pR bP.out⟩,⟨pB⟩⟩
   ·have cZ : decide (aA < (l0.length : Int)) = false := decide_eq_false c7;clear c7;obtain ⟨bY,H⟩ := iN H;have bQ := am bY;clear bY;obtain ⟨aU,aV⟩ : ∃ y_ : List Int,y_ = (aG ++ [(aC) % 4294967296]) := ⟨_,rfl⟩;replace H : ((b_trim.f k1 aU).bind fun aZ => (some aZ)) = some r := pI aV H;have bT := am aV;clear aV;obtain ⟨aZ,dB,H⟩ := oB H;obtain rfl := Option.some.inj H;go_wp2_with (first | ((with_reducible refine zQB (b := .append) (xs := #[.tmp 50,.tmp 53]) rfl ?_);at_builtin;refine Kd.zQW (Kd.int .u32) (w0 := w) w.heap.size rfl (.tmp 50) (.tmp 53) 70 72 (.int .u32 0) 4 rfl Tryz.underlying70 zXV rfl (by decide) zO u5 aG ((aC) % 4294967296) [.int .u32 ((aC) % 4294967296)] (fun k_ => (w.heap.size ≤ k_)) (fun _ => False) rfl rfl ?aP (fun _ hk => hk.elim) ?aF ?aO ?aB ?aS ?aL ?_;(case aP => exact rfl);(case aB => exact pB);(case aF => exact (fun k_ hk => (Nat.le_trans (zQa pB) hk)));(case aO => exact (pR aK.out));(case aS => exact (zQa pB));(case aL => have := bQ.out;omega);intro dH dL ho hb hg hat;rw [← bT.out] at ho;replace HB := am (hb);have aJ := am (ho);clear aK;clear ho hb hg hat;obtain ⟨bG,bH,dA⟩ := Kd.zQt aJ.out;subst dA) | ((with_reducible refine zQb (f := 85) rfl ?_);refine zQg (some 55) rfl rfl Tryz.func85 (by kernel_rfl) rfl #[.slice bG aU.length bH] rfl pM ?_;(with_reducible refine (b_trim.calls k1 (fun k_ => some k_ = (.slice bG aU.length bH : Value).ownBlock) _ _ aU aZ _ ?side1 dB.out).mono ?_);(case side1 => exact Kd.R_V (Kd.zXs rfl (aJ.out)));rintro e dM ⟨dI,rfl,ho0,hb⟩;refine ⟨_,rfl,?_⟩;have bV := am (Kd.zQQ (Kd.zQj (ok' := fun k_ => (w.heap.size ≤ k_)) ho0 (fun k_ hk_ => Or.elim hk_ (fun hs_ => ((aJ.out).1 k_ hs_.symm)) (fun hn_ => (Nat.le_trans (zQa pB) hn_)))) (zQa pB));replace aJ := am (Kd.zQv (pR aJ.out) hb);replace HB := bS hb;(try clear hb);(try clear ho0)))
    go_ret
    exact ⟨_,pE,by (with_reducible repeat (first | apply Kd.zQx | apply Kd.zQu | apply Kd.zQy));exact bV.out,pB⟩
def b_plus.f (k : Nat) (l0 : List Int) (l1 : List Int) : Option (List Int) := if (l0.length : Int) < (l1.length : Int) then b_plus.fg k l1 l0 else b_plus.fg k l0 l1
theorem b_plus.calls (k : Nat) (A0 : Option Addr) (c0 : Nat) (l0 : List Int) (A1 : Option Addr) (c1 : Nat) (l1 : List Int) (r : List Int) (w : World) (hr0 : Kd.C (Kd.int .u32) w A0 l0.length l0) (hc0 : l0.length ≤ c0) (hr1 : Kd.C (Kd.int .u32) w A1 l1.length l1) (hc1 : l1.length ≤ c1) (h : b_plus.f k l0 l1 = some r) :
  Calls Tryz.prog 73 #[.slice A0 l0.length c0,.slice A1 l1.length c1] w fun e w' => ∃ v0_ : Value,e = .returned (v0_) ∧ Kd.V (Kd.int .u32) 72 w' w.heap.size (fun k_ => (w.heap.size ≤ k_)) v0_ r ∧ Below w.heap.size w w' := by
 unfold b_plus.f at h;by_cases hc : (l0.length : Int) < (l1.length : Int)
 ·rw [if_pos hc] at h;exact b_plus.zGV k A1 c1 l1 A0 c0 l0 r w hr1 hc1 hr0 hc0 hc h
 ·rw [if_neg hc] at h;exact b_plus.zGW k A0 c0 l0 A1 c1 l1 r w hr0 hc0 hr1 hc1 hc h
def stringslite_HasPrefix.f (a0 : ByteArray) (a1 : ByteArray) : Option (Bool) := if (a0.size : Int) ≥ (a1.size : Int) then (if 0 ≤ (a1.size : Int) then (if (a1.size : Int) ≤ (a0.size : Int) then (some ((a0.extract 0 ((a1.size : Int) : Int).toNat).toList == a1.toList)) else (none)) else (none)) else (some false)
theorem stringslite_HasPrefix.calls (a0 : ByteArray) (a1 : ByteArray) (r : Bool) (w : World) (h : stringslite_HasPrefix.f a0 a1 = some r) :
  Calls Tryz.prog 51 #[.string a0,.string a1] w fun e w' => e = .returned (.bool r) ∧ Drawn0 w w' := by
 have H := h;unfold stringslite_HasPrefix.f at H;clear h;rcases iT H with ⟨c3,H⟩ | ⟨c3,H⟩
 ·have aC : decide ((a1.size : Int) ≤ (a0.size : Int)) = true := decide_eq_true c3;have aD : decide (a1.size ≤ a0.size) = true := decide_eq_true (Int.ofNat_le.mp c3);clear c3;obtain ⟨c4,H⟩ := iN H;have aH := eq_true c4;have aI : decide (0 ≤ (a1.size : Int)) = true := decide_eq_true c4;clear c4;obtain ⟨c5,H⟩ := iN H;have aJ := eq_true c5;have aK : decide ((a1.size : Int) ≤ (a0.size : Int)) = true := decide_eq_true c5;clear c5;obtain ⟨aG,aA⟩ : ∃ j_ : ByteArray,(a0.extract 0 ((a1.size : Int) : Int).toNat) = j_ := ⟨_,rfl⟩;(replace H : (some ((aG).toList == a1.toList)) = some r := by first | (rw [aA] at H;exact H) | (simp only [aA] at H ⊢;exact H) | exact H);obtain rfl := Option.some.inj H;go_enter Tryz.func51,Tryz.ntmps51;go_wp2
  go_ret
  exact ⟨by first | rfl | (simp;done) | (simp only [← aA] <;> (first | rfl | simp)) | (simp [*];done),pQ0⟩
 ·have aC : decide ((a1.size : Int) ≤ (a0.size : Int)) = false := decide_eq_false c3;have aD : decide (a1.size ≤ a0.size) = false := decide_eq_false (fun h => c3 (Int.ofNat_le.mpr h));clear c3;obtain rfl := Option.some.inj H;go_enter Tryz.func51,Tryz.ntmps51;go_wp2
  go_ret
  exact ⟨pS,pQ0⟩
def stringslite_CutPrefix.f (a0 : ByteArray) (a1 : ByteArray) : Option (ByteArray × Bool) := (stringslite_HasPrefix.f a0 a1).bind fun t124 => (if t124 = true then (if 0 ≤ (a1.size : Int) then (if (a1.size : Int) ≤ (a0.size : Int) then (some (a0.extract ((a1.size : Int) : Int).toNat a0.size,true)) else (none)) else (none)) else (some (a0,false)))
theorem stringslite_CutPrefix.calls (a0 : ByteArray) (a1 : ByteArray) (r1 : ByteArray) (r2 : Bool) (w : World) (h : stringslite_CutPrefix.f a0 a1 = some (r1,r2)) :
  Calls Tryz.prog 37 #[.string a0,.string a1] w fun e w' => e = .returned (.tuple #[.string r1,.bool r2]) ∧ Drawn0 w w' := by
 have H := h;unfold stringslite_CutPrefix.f at H;clear h;obtain ⟨aC,A3,H⟩ := oB H;by_cases c4 : aC = true
 ·subst c4;rw [if_pos rfl] at H;obtain ⟨c5,H⟩ := iN H;have aG := eq_true c5;have aH : decide (0 ≤ (a1.size : Int)) = true := decide_eq_true c5;clear c5;obtain ⟨c6,H⟩ := iN H;have aI := eq_true c6;have aJ : decide ((a1.size : Int) ≤ (a0.size : Int)) = true := decide_eq_true c6;clear c6;obtain ⟨aD,aA⟩ : ∃ j_ : ByteArray,(a0.extract ((a1.size : Int) : Int).toNat a0.size) = j_ := ⟨_,rfl⟩;(replace H : (some (aD,true)) = some (r1,r2) := by first | (rw [aA] at H;exact H) | (simp only [aA] at H ⊢;exact H) | exact H);(try rw [aA] at A3);simp only [Option.some.injEq,Prod.mk.injEq] at H;obtain ⟨rfl,rfl⟩ := H;go_enter Tryz.func37,Tryz.ntmps37;(go_wp2_with (first | ((with_reducible refine zQb (f := 51) rfl ?_);refine zQg (some 8) rfl rfl Tryz.func51 (by kernel_rfl) rfl #[.string a0,.string a1] rfl pM ?_;(with_reducible refine (stringslite_HasPrefix.calls a0 a1 true _ A3.out).mono ?_);rintro e w' ⟨rfl,⟨nd,rfl⟩⟩;refine ⟨_,rfl,?_⟩)));go_ret2;exact ⟨by first | rfl | (simp;done) | (simp only [← aA] <;> (first | rfl | simp)) | (simp [*];done),pQ0⟩
 ·replace c4 := Bool.eq_false_iff.mpr c4;subst c4;rw [if_neg (show ¬ (false = true) by decide)] at H;simp only [Option.some.injEq,Prod.mk.injEq] at H;obtain ⟨rfl,rfl⟩ := H;go_enter Tryz.func37,Tryz.ntmps37;(go_wp2_with (first | ((with_reducible refine zQb (f := 51) rfl ?_);refine zQg (some 8) rfl rfl Tryz.func51 (by kernel_rfl) rfl #[.string a0,.string a1] rfl pM ?_;(with_reducible refine (stringslite_HasPrefix.calls a0 a1 false _ A3.out).mono ?_);rintro e w' ⟨rfl,⟨nd,rfl⟩⟩;refine ⟨_,rfl,?_⟩)));go_ret2;exact ⟨pS,pQ0⟩
def strings_CutPrefix.f (a0 : ByteArray) (a1 : ByteArray) : Option (ByteArray × Bool) := (stringslite_CutPrefix.f a0 a1).bind fun bt125 => (some (bt125.1,bt125.2))
theorem strings_CutPrefix.calls (a0 : ByteArray) (a1 : ByteArray) (r1 : ByteArray) (r2 : Bool) (w : World) (h : strings_CutPrefix.f a0 a1 = some (r1,r2)) :
  Calls Tryz.prog 26 #[.string a0,.string a1] w fun e w' => e = .returned (.tuple #[.string r1,.bool r2]) ∧ Drawn0 w w' := by
 have H : ((stringslite_CutPrefix.f a0 a1).bind fun bt125 => (some (bt125.1,bt125.2))) = some (r1,r2) := h;clear h;obtain ⟨⟨aA,aC⟩,A3,H⟩ := oB H;(try dsimp only at H);simp only [Option.some.injEq,Prod.mk.injEq] at H;obtain ⟨rfl,rfl⟩ := H;go_enter Tryz.func26,Tryz.ntmps26;(go_wp2_with (first | ((with_reducible refine zQb (f := 37) rfl ?_);refine zQg (some 8) rfl rfl Tryz.func37 (by kernel_rfl) rfl #[.string a0,.string a1] rfl pM ?_;(with_reducible refine (stringslite_CutPrefix.calls a0 a1 aA aC _ A3.out).mono ?_);rintro e w' ⟨rfl,⟨nd,rfl⟩⟩;refine ⟨_,rfl,?_⟩)));go_ret2;exact ⟨pS,pQ0⟩
def dec_digits.l0 : Nat → ByteArray → Int → Int → Option (Int)
 | 0,_,_,_ => none
 | k + 1,x0,x5,x6 => if x6 < x5 then (if 0 ≤ x6 then (if x6 < (x0.size : Int) then (if (bt x0 x6) < 48 then (some x6) else (if (bt x0 x6) > 57 then (some x6) else (dec_digits.l0 k x0 x5 (wrap64 (x6 + 1))))) else (none)) else (none)) else (some (x0.size : Int))
def dec_digits.f (k : Nat) (a0 : ByteArray) : Option (Int) := dec_digits.l0 k a0 (a0.size : Int) 0
theorem dec_digits.mono_l : ∀ k,(∀ y0 y1 y2,LeO (dec_digits.l0 k y0 y1 y2) (dec_digits.l0 (k + 1) y0 y1 y2))
 | 0 => fun _ _ _ r h => by simp [dec_digits.l0] at h
 | k + 1 => by
  have ih0 := dec_digits.mono_l k
  ·intro y0 y1 y2;unfold dec_digits.l0;repeat' first | (with_reducible exact ih0 _ _ _) | (with_reducible exact LeO.refl _) | (with_reducible exact LeO.none _) | (with_reducible refine LeO.ite ?_ ?_) | (with_reducible refine LeO.bind ?_ (fun _ => ?_))
theorem dec_digits.mono : ∀ a0 k,LeO (dec_digits.f k a0) (dec_digits.f (k + 1) a0) := by
 intro a0 k;have ih0 := dec_digits.mono_l k;unfold dec_digits.f;repeat' first | (with_reducible exact ih0 _ _ _) | (with_reducible exact LeO.refl _) | (with_reducible exact LeO.none _) | (with_reducible refine LeO.ite ?_ ?_) | (with_reducible refine LeO.bind ?_ (fun _ => ?_))
theorem dec_digits.calls (k : Nat) (a0 : ByteArray) (r : Int) (w : World) (h : dec_digits.f k a0 = some r) :
  Calls Tryz.prog 52 #[.string a0] w fun e w' => e = .returned (.int .i64 r) ∧ Drawn0 w w' := by
 have H : (dec_digits.l0 k a0 (a0.size : Int) 0) = some r := h;clear h;have H' := am H;clear H;go_enter Tryz.func52,Tryz.ntmps52;go_wp2
 go_loopg [6] k (fun kq v6 w' => ∃ (aA : Int),v6 = .int .i64 aA ∧ Aside0 (dec_digits.l0 kq a0 (a0.size : Int) aA = some r) ∧ Aside0 (kq ≤ k) ∧ Drawn0 w w')
 case atStart => exact ⟨(0),pS,H',⟨Nat.le_refl _⟩,pQ0⟩
 case round =>
  clear H';obtain ⟨aA,rfl,HA,aC,⟨m1,rfl⟩⟩ := hrel
  cases gk with
  | zero => exact absurd HA.out (by simp [dec_digits.l0])
  | succ k1 =>
   have H := HA.out;clear HA;simp only [dec_digits.l0] at H;rcases iT H with ⟨c2,H⟩ | ⟨c2,H⟩
   ·have aG : decide (aA < (a0.size : Int)) = true := decide_eq_true c2;clear c2;obtain ⟨c3,H⟩ := iN H;have aK : decide (0 ≤ aA) = true := decide_eq_true c3;clear c3;obtain ⟨c4,H⟩ := iN H;have aM : decide (aA < (a0.size : Int)) = true := decide_eq_true c4;clear c4;rcases iT H with ⟨c6,H⟩ | ⟨c6,H⟩
    ·have aH : decide ((bt a0 aA) < 48) = true := decide_eq_true c6;clear c6;obtain rfl := Option.some.inj H;have p5 : 0 ≤ (aA : Int) := pD;have q5 : aA < (a0.size : Int) := pD;have aD := bt_at a0 aA;replace p5 := eq_true p5;replace q5 := eq_true q5;go_wp2
     go_ret
     exact ⟨pS,pQ0⟩
    ·have aH : decide ((bt a0 aA) < 48) = false := decide_eq_false c6;clear c6;rcases iT H with ⟨c8,H⟩ | ⟨c8,H⟩
     ·have aI : decide (57 < (bt a0 aA)) = true := decide_eq_true c8;clear c8;obtain rfl := Option.some.inj H;have p5 : 0 ≤ (aA : Int) := pD;have q5 : aA < (a0.size : Int) := pD;have aD := bt_at a0 aA;replace p5 := eq_true p5;replace q5 := eq_true q5;have p7 : 0 ≤ (aA : Int) := pD;have q7 : aA < (a0.size : Int) := pD;have aJ := bt_at a0 aA;replace p7 := eq_true p7;replace q7 := eq_true q7;go_wp2
      go_ret
      exact ⟨pS,pQ0⟩
     ·have aI : decide (57 < (bt a0 aA)) = false := decide_eq_false c8;clear c8;have H' := am H;clear H;have p5 : 0 ≤ (aA : Int) := pD;have q5 : aA < (a0.size : Int) := pD;have aD := bt_at a0 aA;replace p5 := eq_true p5;replace q5 := eq_true q5;have p7 : 0 ≤ (aA : Int) := pD;have q7 : aA < (a0.size : Int) := pD;have aJ := bt_at a0 aA;replace p7 := eq_true p7;replace q7 := eq_true q7;go_wp2
      go_roundg k1
      case measure => have := aC.out;omega
      case rel => exact ⟨(wrap64 (aA + 1)),pS,H',⟨by have := aC.out;omega⟩,pQ0⟩
   ·have aG : decide (aA < (a0.size : Int)) = false := decide_eq_false c2;clear c2;obtain rfl := Option.some.inj H;go_wp2
    go_ret
    exact ⟨pS,pQ0⟩
def strings_HasPrefix.f (a0 : ByteArray) (a1 : ByteArray) : Option (Bool) := (stringslite_HasPrefix.f a0 a1).bind fun t127 => (some t127)
theorem strings_HasPrefix.calls (a0 : ByteArray) (a1 : ByteArray) (r : Bool) (w : World) (h : strings_HasPrefix.f a0 a1 = some r) :
  Calls Tryz.prog 53 #[.string a0,.string a1] w fun e w' => e = .returned (.bool r) ∧ Drawn0 w w' := by
 have H : ((stringslite_HasPrefix.f a0 a1).bind fun aA => (some aA)) = some r := h;clear h;obtain ⟨aA,A3,H⟩ := oB H;obtain rfl := Option.some.inj H;go_enter Tryz.func53,Tryz.ntmps53;go_wp2_with (first | ((with_reducible refine zQb (f := 51) rfl ?_);refine zQg (some 7) rfl rfl Tryz.func51 (by kernel_rfl) rfl #[.string a0,.string a1] rfl pM ?_;(with_reducible refine (stringslite_HasPrefix.calls a0 a1 aA _ A3.out).mono ?_);rintro e w' ⟨rfl,⟨nd,rfl⟩⟩;refine ⟨_,rfl,?_⟩))
 go_ret
 exact ⟨pS,pQ0⟩
end Go.Proofs.YtongfmeediokmaaGreatDoor.Pr
end
section
namespace Go.Proofs.YtongfmeediokmaaGreatDoor.Pr
open Go.RowKit YtongfmeediokmaaGreatDoorW.PrintWords YtongfmeediokmaaGreatDoorW.PrintLast YtongfmeediokmaaGreatDoorW.PrintMore YtongfmeediokmaaGreatDoor.Pv
attribute [local go_sem] zXb zQZ zXj zXi zQP zQO zXa zQY
mutual
def dec_cut.j0 : Nat → ByteArray → ByteArray → Int → Option (ByteArray × Int × Bool)
 | 0,_,_,_ => none
 | k + 1,x6,x131000,x131001 => if x6.toList = ([] : List UInt8) then (some (x131000,x131001,true)) else (if 0 < (x6.size : Int) then (if (bt x6 0) = 101 then (dec_cut.j1 k x6 false x131000 x131001) else (dec_cut.j1 k x6 ((bt x6 0) != 69) x131000 x131001)) else (none))
def dec_cut.j1 : Nat → ByteArray → Bool → ByteArray → Int → Option (ByteArray × Int × Bool)
 | 0,_,_,_,_ => none
 | k + 1,x6,x56,x131000,x131001 => if x56 = true then (some (x131000,x131001,false)) else (if 1 ≤ (x6.size : Int) then (if (x6.extract 1 x6.size).toList = ([] : List UInt8) then (dec_cut.j2 k (x6.extract 1 x6.size) 1 false x131000 x131001) else (if 0 < ((x6.extract 1 x6.size).size : Int) then (if (bt (x6.extract 1 x6.size) 0) = 43 then (dec_cut.j2 k (x6.extract 1 x6.size) 1 true x131000 x131001) else (dec_cut.j2 k (x6.extract 1 x6.size) 1 ((bt (x6.extract 1 x6.size) 0) == 45) x131000 x131001)) else (none))) else (none))
def dec_cut.j2 : Nat → ByteArray → Int → Bool → ByteArray → Int → Option (ByteArray × Int × Bool)
 | 0,_,_,_,_,_ => none
 | k + 1,x6,x8,x71,x131000,x131001 => if x71 = true then (if 0 < (x6.size : Int) then (if (bt x6 0) = 45 then (if 1 ≤ (x6.size : Int) then (dec_cut.j3 k (x6.extract 1 x6.size) (-1) x131000 x131001) else (none)) else (if 1 ≤ (x6.size : Int) then (dec_cut.j3 k (x6.extract 1 x6.size) x8 x131000 x131001) else (none))) else (none)) else (dec_cut.j3 k x6 x8 x131000 x131001)
def dec_cut.j3 : Nat → ByteArray → Int → ByteArray → Int → Option (ByteArray × Int × Bool)
 | 0,_,_,_,_ => none
 | k + 1,x6,x8,x131000,x131001 => if x6.toList = ([] : List UInt8) then (dec_cut.j4 k x6 x8 true x131000 x131001) else ((dec_digits.f k x6).bind fun t133 => (dec_cut.j4 k x6 x8 (t133 != (x6.size : Int)) x131000 x131001))
def dec_cut.j4 : Nat → ByteArray → Int → Bool → ByteArray → Int → Option (ByteArray × Int × Bool)
 | 0,_,_,_,_,_ => none
 | k + 1,x6,x8,x85,x131000,x131001 => if x85 = true then (some (x131000,x131001,false)) else (dec_cut.l0 k x6 x8 0 (x6.size : Int) 0 x131000 x131001)
def dec_cut.l0 : Nat → ByteArray → Int → Int → Int → Int → ByteArray → Int → Option (ByteArray × Int × Bool)
 | 0,_,_,_,_,_,_,_ => none
 | k + 1,x6,x8,x9,x88,x89,x131000,x131001 => if x89 < x88 then (if 0 ≤ x89 then (if x89 < (x6.size : Int) then (dec_cut.l0 k x6 x8 (mn (wrap64 ((wrap64 (10 * x9)) + (((bt x6 x89) - 48) % 256))) 9999) x88 (wrap64 (x89 + 1)) x131000 x131001) else (none)) else (none)) else (some (x131000,wrap64 (x131001 + (wrap64 (x8 * x9))),true))
end
def dec_cut.f (k : Nat) (a0 : ByteArray) : Option (ByteArray × Int × Bool) := (dec_digits.f k a0).bind fun t129 => (if 0 ≤ t129 then (if t129 ≤ (a0.size : Int) then (if t129 = 0 then (some (a0.extract 0 (t129 : Int).toNat,0,false)) else ((strings_HasPrefix.f (a0.extract (t129 : Int).toNat a0.size) (⟨#[46]⟩ : ByteArray)).bind fun t131 => (if t131 = true then (if 1 ≤ ((a0.extract (t129 : Int).toNat a0.size).size : Int) then ((dec_digits.f k ((a0.extract (t129 : Int).toNat a0.size).extract 1 (a0.extract (t129 : Int).toNat a0.size).size)).bind fun t132 => (if t132 = 0 then (some (a0.extract 0 (t129 : Int).toNat,0,false)) else (if 1 ≤ (wrap64 (1 + t132)) then (if (wrap64 (1 + t132)) ≤ ((a0.extract (t129 : Int).toNat a0.size).size : Int) then (if (a0.extract 0 (t129 : Int).toNat).size + ((a0.extract (t129 : Int).toNat a0.size).extract 1 ((wrap64 (1 + t132)) : Int).toNat).size ≤ 9223372036854775807 then (if 0 ≤ (wrap64 (1 + t132)) then (dec_cut.j0 k ((a0.extract (t129 : Int).toNat a0.size).extract ((wrap64 (1 + t132)) : Int).toNat (a0.extract (t129 : Int).toNat a0.size).size) ((a0.extract 0 (t129 : Int).toNat) ++ ((a0.extract (t129 : Int).toNat a0.size).extract 1 ((wrap64 (1 + t132)) : Int).toNat)) (wrap64 (-t132))) else (none)) else (none)) else (none)) else (none)))) else (none)) else (dec_cut.j0 k (a0.extract (t129 : Int).toNat a0.size) (a0.extract 0 (t129 : Int).toNat) 0)))) else (none)) else (none))
theorem dec_cut.mono_l : ∀ k,(∀ y0 y1 y2,LeO (dec_cut.j0 k y0 y1 y2) (dec_cut.j0 (k + 1) y0 y1 y2)) ∧ (∀ y0 y1 y2 y3,LeO (dec_cut.j1 k y0 y1 y2 y3) (dec_cut.j1 (k + 1) y0 y1 y2 y3)) ∧ (∀ y0 y1 y2 y3 y4,LeO (dec_cut.j2 k y0 y1 y2 y3 y4) (dec_cut.j2 (k + 1) y0 y1 y2 y3 y4)) ∧ (∀ y0 y1 y2 y3,LeO (dec_cut.j3 k y0 y1 y2 y3) (dec_cut.j3 (k + 1) y0 y1 y2 y3)) ∧ (∀ y0 y1 y2 y3 y4,LeO (dec_cut.j4 k y0 y1 y2 y3 y4) (dec_cut.j4 (k + 1) y0 y1 y2 y3 y4)) ∧ (∀ y0 y1 y2 y3 y4 y5 y6,LeO (dec_cut.l0 k y0 y1 y2 y3 y4 y5 y6) (dec_cut.l0 (k + 1) y0 y1 y2 y3 y4 y5 y6))
 | 0 => ⟨fun _ _ _ r h => by simp [dec_cut.j0] at h,fun _ _ _ _ r h => by simp [dec_cut.j1] at h,fun _ _ _ _ _ r h => by simp [dec_cut.j2] at h,fun _ _ _ _ r h => by simp [dec_cut.j3] at h,fun _ _ _ _ _ r h => by simp [dec_cut.j4] at h,fun _ _ _ _ _ _ _ r h => by simp [dec_cut.l0] at h⟩
 | k + 1 => by
  obtain ⟨ih0,ih1,ih2,ih3,ih4,ih5⟩ := dec_cut.mono_l k;refine ⟨?_,?_,?_,?_,?_,?_⟩
  all_goals intros
  all_goals first | unfold dec_cut.j0 | unfold dec_cut.j1 | unfold dec_cut.j2 | unfold dec_cut.j3 | unfold dec_cut.j4 | unfold dec_cut.l0
  all_goals repeat' first | (with_reducible exact ih0 _ _ _) | (with_reducible exact ih1 _ _ _ _) | (with_reducible exact ih2 _ _ _ _ _) | (with_reducible exact ih3 _ _ _ _) | (with_reducible exact ih4 _ _ _ _ _) | (with_reducible exact ih5 _ _ _ _ _ _ _) | (with_reducible exact dec_digits.mono _ _) | (with_reducible exact LeO.refl _) | (with_reducible exact LeO.none _) | (with_reducible refine LeO.ite ?_ ?_) | (with_reducible refine LeO.bind ?_ (fun _ => ?_))
theorem dec_cut.mono : ∀ a0 k,LeO (dec_cut.f k a0) (dec_cut.f (k + 1) a0) := by
 intro a0 k;obtain ⟨ih0,ih1,ih2,ih3,ih4,ih5⟩ := dec_cut.mono_l k;unfold dec_cut.f;repeat' first | (with_reducible exact ih0 _ _ _) | (with_reducible exact ih1 _ _ _ _) | (with_reducible exact ih2 _ _ _ _ _) | (with_reducible exact ih3 _ _ _ _) | (with_reducible exact ih4 _ _ _ _ _) | (with_reducible exact ih5 _ _ _ _ _ _ _) | (with_reducible exact dec_digits.mono _ _) | (with_reducible exact LeO.refl _) | (with_reducible exact LeO.none _) | (with_reducible refine LeO.ite ?_ ?_) | (with_reducible refine LeO.bind ?_ (fun _ => ?_))
def dec_cut.T2 : Bool × List (List Nat × List Nat) := (true,[([],[]),([],[]),([0,1],[0,1]),([2],[2]),([],[]),([],[]),([4,5],[4,5]),([],[]),([7,3,0,1,2,3,7],[3,7]),([6,8,0,1,2,3,4,5,6,7,8],[6])])
def dec_cut.B2 : List Nat := [0,0,3,7,0,0,48,0,143,511]
theorem dec_cut.tab2 : rtab .any (opsOf Tryz.f38 2) = dec_cut.T2 := by kernel_rfl
theorem dec_cut.bits2 : zXS dec_cut.T2.2 dec_cut.B2 = true := by kernel_rfl
def dec_cut.T9 : Bool × List (List Nat × List Nat) := (true,[([],[]),([0],[0]),([],[]),([],[]),([3],[3]),([2,4],[2,4]),([1,5],[1,5]),([],[]),([7],[7]),([],[]),([],[]),([10],[10]),([9,11],[9,11]),([0,1,2,3,4,5,6],[]),([13,6,0,1,2,3,4,5,6],[6,13]),([0,1,2,3,4,5,6,7,8,13,14],[]),([15,8,14,0,1,2,3,4,5,6,7,8,13,14],[8,15]),([12,16,0,1,2,3,4,5,6,7,8,9,10,11,12,13,14,15,16],[2,9,12])])
def dec_cut.B9 : List Nat := [0,1,0,0,8,28,63,0,128,0,0,1024,3584,127,8319,25087,57855,131071]
theorem dec_cut.tab9 : rtab .any (opsOf Tryz.f38 9) = dec_cut.T9 := by kernel_rfl
theorem dec_cut.bits9 : zXS dec_cut.T9.2 dec_cut.B9 = true := by kernel_rfl
set_option maxHeartbeats 8000000 in
set_option maxRecDepth 100000 in
theorem dec_cut.calls (k : Nat) (a0 : ByteArray) (r1 : ByteArray) (r2 : Int) (r3 : Bool) (w : World) (h : dec_cut.f k a0 = some (r1,r2,r3)) :
  Calls Tryz.prog 38 #[.string a0] w fun e w' => e = .returned (.tuple #[.agg #[.string r1,.int .i64 r2],.bool r3]) ∧ Below w.heap.size w w' := by
 have hu49 := Tryz.underlying49;have HB := am (Below.refl w.heap.size w);have H := h;unfold dec_cut.f at H;clear h;obtain ⟨aV,A2,H⟩ := oB H;obtain ⟨c3,H⟩ := iN H;have iI := eq_true c3;have iJ : decide (0 ≤ aV) = true := decide_eq_true c3;clear c3;obtain ⟨c4,H⟩ := iN H;have iK := eq_true c4;have iL : decide (aV ≤ (a0.size : Int)) = true := decide_eq_true c4;clear c4;obtain ⟨aU,bC⟩ : ∃ j_ : ByteArray,(a0.extract 0 (aV : Int).toNat) = j_ := ⟨_,rfl⟩;(replace H : (if aV = 0 then (some (aU,0,false)) else ((strings_HasPrefix.f (a0.extract (aV : Int).toNat a0.size) (⟨#[46]⟩ : ByteArray)).bind fun bW => (if bW = true then (if 1 ≤ ((a0.extract (aV : Int).toNat a0.size).size : Int) then ((dec_digits.f k ((a0.extract (aV : Int).toNat a0.size).extract 1 (a0.extract (aV : Int).toNat a0.size).size)).bind fun aJ => (if aJ = 0 then (some (aU,0,false)) else (if 1 ≤ (wrap64 (1 + aJ)) then (if (wrap64 (1 + aJ)) ≤ ((a0.extract (aV : Int).toNat a0.size).size : Int) then (if (aU).size + ((a0.extract (aV : Int).toNat a0.size).extract 1 ((wrap64 (1 + aJ)) : Int).toNat).size ≤ 9223372036854775807 then (if 0 ≤ (wrap64 (1 + aJ)) then (dec_cut.j0 k ((a0.extract (aV : Int).toNat a0.size).extract ((wrap64 (1 + aJ)) : Int).toNat (a0.extract (aV : Int).toNat a0.size).size) ((aU) ++ ((a0.extract (aV : Int).toNat a0.size).extract 1 ((wrap64 (1 + aJ)) : Int).toNat)) (wrap64 (-aJ))) else (none)) else (none)) else (none)) else (none)))) else (none)) else (dec_cut.j0 k (a0.extract (aV : Int).toNat a0.size) aU 0)))) = some (r1,r2,r3) := by first | (rw [bC] at H;exact H) | (simp only [bC] at H ⊢;exact H) | exact H);(try rw [bC] at A2);have iM := eq_true (pD : 0 ≤ aV);have iO := eq_true (pD : aV ≤ (a0.size : Int));obtain ⟨aW,bA⟩ : ∃ j_ : ByteArray,(a0.extract (aV : Int).toNat a0.size) = j_ := ⟨_,rfl⟩;(replace H : (if aV = 0 then (some (aU,0,false)) else ((strings_HasPrefix.f (aW) (⟨#[46]⟩ : ByteArray)).bind fun bW => (if bW = true then (if 1 ≤ ((aW).size : Int) then ((dec_digits.f k ((aW).extract 1 (aW).size)).bind fun aJ => (if aJ = 0 then (some (aU,0,false)) else (if 1 ≤ (wrap64 (1 + aJ)) then (if (wrap64 (1 + aJ)) ≤ ((aW).size : Int) then (if (aU).size + ((aW).extract 1 ((wrap64 (1 + aJ)) : Int).toNat).size ≤ 9223372036854775807 then (if 0 ≤ (wrap64 (1 + aJ)) then (dec_cut.j0 k ((aW).extract ((wrap64 (1 + aJ)) : Int).toNat (aW).size) ((aU) ++ ((aW).extract 1 ((wrap64 (1 + aJ)) : Int).toNat)) (wrap64 (-aJ))) else (none)) else (none)) else (none)) else (none)))) else (none)) else (dec_cut.j0 k aW aU 0)))) = some (r1,r2,r3) := by first | (rw [bA] at H;exact H) | (simp only [bA] at H ⊢;exact H) | exact H);(try rw [bA] at A2);rcases iT H with ⟨c9,H⟩ | ⟨c9,H⟩
 ·have fC : (aV == 0) = true := beq_iff_eq.mpr c9;have fD : (aV != 0) = false := bne_eq_false_iff_eq.mpr c9;clear c9;simp only [Option.some.injEq,Prod.mk.injEq] at H;obtain ⟨rfl,rfl,rfl⟩ := H;go_enter Tryz.func38,Tryz.ntmps38;(try go_wp2_with (first | ((with_reducible refine zQp (N := 2) rfl ?_);(try (refine zYW (by rfl) ?_;dsimp only));refine zQC ?hg (N := 2) ?hd (cs := #[.string (⟨#[]⟩ : ByteArray),.int .i64 0]) (t := 49) ?hr ?_;(case hd => rfl);(case hg => rfl);(case hr => first | (go_simp;done) | (go_simp;rfl));intro aN hg dA hbox hb;have aA := am (hbox);have GW128 := am ((by rw [hg];exact (zQa pB) : w.heap.size ≤ aN));have GE128 := am ((by rw [hg];exact (zQa pB) : w.heap.size ≤ aN));replace HB := bS hb;clear hb hbox hg) | ((with_reducible refine zQb (f := 52) rfl ?_);refine zQg (some 12) rfl rfl Tryz.func52 (by kernel_rfl) rfl #[.string a0] rfl pM ?_;(with_reducible refine (dec_digits.calls k a0 aV _ A2.out).mono ?_);rintro e w' ⟨rfl,⟨nd,rfl⟩⟩;refine ⟨_,rfl,?_⟩;(try (rw [zXe dA];generalize hq_ : World.drewN dA _ = dA;have n0_ : Aside0 (dA.heap[aN]? = some (.cells #[.string (⟨#[]⟩ : ByteArray),.int .i64 0] 49 (0,0))) := ⟨by rw [← hq_];exact (pK aA.out)⟩;have n1_ : Aside0 (Below w.heap.size w dA) := ⟨by rw [← hq_];exact pB⟩;clear aA HB hq_;have aA := n0_;have HB := n1_;clear n0_ n1_)))));replace aA := am (zQe aA.out);replace HB := am (zQL HB.out);refine zYt (n := 10) (S := fun w' => True) (ds := []) (bm 10 0) (by kernel_rfl) rfl rfl trivial (fun hHeld => ?_);refine zXB dec_cut.tab2 dec_cut.bits2 (fun HT_ HW_ => ?_);generalize dA.drew = jV at aA HB hHeld ⊢
  refine puA 0 (some 13) ?_ (bm 10 1) rfl rfl HT_.out (Or.inl ⟨by kernel_rfl,?_⟩) ?_ ?_ ?_
  rotate_left;(intro w';go_simp;with_reducible rfl);rotate_left;exact pA
  refine puA 1 (some 14) ?_ (bm 10 3) rfl rfl HT_.out (Or.inl ⟨by kernel_rfl,?_⟩) ?_ ?_ ?_
  rotate_left;(intro w';go_simp;with_reducible rfl);rotate_left;exact pA
  refine puA 2 (some 15) ?_ (bm 10 7) rfl rfl HT_.out (Or.inl ⟨by kernel_rfl,?_⟩) ?_ ?_ ?_
  rotate_left;(intro w';go_simp;with_reducible rfl);rotate_left;exact pA
  refine puA 3 (some 16) ?_ (bm 10 15) rfl rfl HT_.out (Or.inl ⟨by kernel_rfl,?_⟩) ?_ ?_ ?_
  rotate_left;(intro w';go_simp;with_reducible rfl);rotate_left;exact pA
  refine puA 4 (some 17) ?_ (bm 10 31) rfl rfl HT_.out (Or.inl ⟨by kernel_rfl,?_⟩) ?_ ?_ ?_
  rotate_left;(intro w';go_simp;with_reducible rfl);rotate_left;exact pA
  refine puA 5 (some 18) ?_ (bm 10 63) rfl rfl HT_.out (Or.inl ⟨by kernel_rfl,?_⟩) ?_ ?_ ?_
  rotate_left;(intro w';go_simp;with_reducible rfl);rotate_left;exact pA
  refine puA 6 (some 19) ?_ (bm 10 127) rfl rfl HT_.out (Or.inl ⟨by kernel_rfl,?_⟩) ?_ ?_ ?_
  rotate_left;(intro w';go_simp;with_reducible rfl);rotate_left;exact pA;refine one_ (i := 7) (N := some 5) (bm 10 255) rfl rfl (zQS HT_.out (by kernel_rfl)) (by decide) (fun K hK => ?_);refine zBC ?hg (N := 5) ?hd (cs := #[.string (⟨#[]⟩ : ByteArray),.int .i64 0]) (t := 49) ?hr ?_;(case hd => rfl);(case hg => rfl);(case hr => first | (go_simp;done) | (go_simp;rfl));intro aK hg gW hbox hb;have n0_ := am (pkb aA.out hb);have n1_ := bS hb;have n2_ := am (hbox);have n3_ := am ((by rw [hg];exact (zQa pB) : w.heap.size ≤ aK));have n4_ := am ((by rw [hg];exact (zQa pB) : w.heap.size ≤ aK));have n5_ := am ((by rw [hg];exact Nat.ne_of_lt (pkl aA.out) : aN ≠ aK));have n6_ := am ((by rw [hg];exact Nat.ne_of_gt (pkl aA.out) : aK ≠ aN));clear aA HB;have aA := n0_;have HB := n1_;have aG := n2_;have GW130 := n3_;have GE130 := n4_;have NB128_130 := n5_;have NB130_128 := n6_;clear n0_ n1_ n2_ n3_ n4_ n5_ n6_ hb hbox hg;refine hK.out _ _ trivial (fun hHeld => ?_);clear hK K
  refine norm_ (a' := ?_) ?_ ?_
  rotate_left;(show Act.put _ (some 5) _ = _;exact pA);refine one_ (i := 8) (N := none) (bm 10 511) rfl rfl (zQS HT_.out (by kernel_rfl)) (by decide) (fun K hK => ?_);have hs13 : gW.cell? ⟨aK,0,none⟩ = some (.string (⟨#[]⟩ : ByteArray)) := cz0 aG.out;have hfs13 := zQw aG.out 0;have hns13_0 := NB128_130.out;have hms13_0 := NB130_128.out;have hs14 : gW.cell? ⟨aK,1,none⟩ = some (.int .i64 0) := cz1 aG.out;have hfs14 := zQw aG.out 1;have hns14_0 := NB128_130.out;have hms14_0 := NB130_128.out;refine skip_ (w1 := ?_) ?hw rfl ?_ ?_;(case hw => kernel_rfl);rotate_left
  ·go_simp
   rfl
  refine hK.out _ _ trivial (fun hHeld => ?_);clear hK K
  refine puA 9 (some 6) ?_ (bm 10 1023) rfl rfl HT_.out (Or.inl ⟨by kernel_rfl,?_⟩) ?_ ?_ ?_
  rotate_left;(intro w';go_simp;with_reducible rfl);rotate_left;exact pA
  refine done_ (zYr HT_.out (by kernel_rfl)) ?_
  have hnb15 := NB130_128.out;have hnc15 := NB128_130.out;have dB := cf2 aG.out;have dC := cf2 aA.out;try go_wp2
  refine bodyPost_ret (zXg rfl _ _ aN 49 #[.string aU,.int .i64 0] (0,0) _ rfl (by (with_reducible repeat (first | refine zQc ?_ _ | refine zQe ?_ | refine zQd ?_ _));refine zQi (cs := #[.string aU,.int .i64 0]) ?_ 1 _ rfl;(with_reducible repeat (first | refine zQc ?_ _ | refine zQe ?_ | refine zQd ?_ _));refine zQi (cs := #[.string (⟨#[]⟩ : ByteArray),.int .i64 0]) ?_ 0 _ rfl;(with_reducible repeat (first | refine zQc ?_ _ | refine zQe ?_ | refine zQd ?_ _));refine zQA ?_ NB128_130.out _;(with_reducible repeat (first | refine zQc ?_ _ | refine zQe ?_ | refine zQd ?_ _));refine zQA ?_ NB128_130.out _;exact pK aA.out) Tryz.underlying49 rfl (by kernel_rfl)) rfl ?_
  exact ⟨by first | rfl | (simp [errW_none,errW_some] <;> rfl) | (simp only [← bC,← bA];first | rfl | (simp [errW_none,errW_some] <;> rfl)) | (simp [*,errW_none,errW_some] <;> rfl),pB⟩
 ·have fC : (aV == 0) = false := beq_eq_false_iff_ne.mpr c9;have fD : (aV != 0) = true := bne_iff_ne.mpr c9;obtain ⟨bW,iV,H⟩ := oB H;have HC19 := am H;clear H;go_enter Tryz.func38,Tryz.ntmps38;(try go_wp2_with (first | ((with_reducible refine zQp (N := 2) rfl ?_);(try (refine zYW (by rfl) ?_;dsimp only));refine zQC ?hg (N := 2) ?hd (cs := #[.string (⟨#[]⟩ : ByteArray),.int .i64 0]) (t := 49) ?hr ?_;(case hd => rfl);(case hg => rfl);(case hr => first | (go_simp;done) | (go_simp;rfl));intro aN hg dD hbox hb;have aA := am (hbox);have GW128 := am ((by rw [hg];exact (zQa pB) : w.heap.size ≤ aN));have GE128 := am ((by rw [hg];exact (zQa pB) : w.heap.size ≤ aN));replace HB := bS hb;clear hb hbox hg) | ((with_reducible refine zQb (f := 52) rfl ?_);refine zQg (some 12) rfl rfl Tryz.func52 (by kernel_rfl) rfl #[.string a0] rfl pM ?_;(with_reducible refine (dec_digits.calls k a0 aV _ A2.out).mono ?_);rintro e w' ⟨rfl,⟨nd,rfl⟩⟩;refine ⟨_,rfl,?_⟩;(try (rw [zXe dD];generalize hq_ : World.drewN dD _ = dD;have n0_ : Aside0 (dD.heap[aN]? = some (.cells #[.string (⟨#[]⟩ : ByteArray),.int .i64 0] 49 (0,0))) := ⟨by rw [← hq_];exact (pK aA.out)⟩;have n1_ : Aside0 (Below w.heap.size w dD) := ⟨by rw [← hq_];exact pB⟩;clear aA HB hq_;have aA := n0_;have HB := n1_;clear n0_ n1_)))));replace aA := am (zQe aA.out);replace HB := am (zQL HB.out);refine zYt (n := 10) (S := fun w' => True) (ds := []) (bm 10 0) (by kernel_rfl) rfl rfl trivial (fun hHeld => ?_);refine zXB dec_cut.tab2 dec_cut.bits2 (fun HT_ HW_ => ?_);generalize dD.drew = jW at aA HB hHeld ⊢
  refine puA 0 (some 13) ?_ (bm 10 1) rfl rfl HT_.out (Or.inl ⟨by kernel_rfl,?_⟩) ?_ ?_ ?_
  rotate_left;(intro w';go_simp;with_reducible rfl);rotate_left;exact pA
  refine puA 1 (some 14) ?_ (bm 10 3) rfl rfl HT_.out (Or.inl ⟨by kernel_rfl,?_⟩) ?_ ?_ ?_
  rotate_left;(intro w';go_simp;with_reducible rfl);rotate_left;exact pA
  refine puA 2 (some 15) ?_ (bm 10 7) rfl rfl HT_.out (Or.inl ⟨by kernel_rfl,?_⟩) ?_ ?_ ?_
  rotate_left;(intro w';go_simp;with_reducible rfl);rotate_left;exact pA
  refine puA 3 (some 16) ?_ (bm 10 15) rfl rfl HT_.out (Or.inl ⟨by kernel_rfl,?_⟩) ?_ ?_ ?_
  rotate_left;(intro w';go_simp;with_reducible rfl);rotate_left;exact pA
  refine puA 4 (some 17) ?_ (bm 10 31) rfl rfl HT_.out (Or.inl ⟨by kernel_rfl,?_⟩) ?_ ?_ ?_
  rotate_left;(intro w';go_simp;with_reducible rfl);rotate_left;exact pA
  refine puA 5 (some 18) ?_ (bm 10 63) rfl rfl HT_.out (Or.inl ⟨by kernel_rfl,?_⟩) ?_ ?_ ?_
  rotate_left;(intro w';go_simp;with_reducible rfl);rotate_left;exact pA
  refine puA 6 (some 19) ?_ (bm 10 127) rfl rfl HT_.out (Or.inl ⟨by kernel_rfl,?_⟩) ?_ ?_ ?_
  rotate_left;(intro w';go_simp;with_reducible rfl);rotate_left;exact pA;refine one_ (i := 7) (N := some 5) (bm 10 255) rfl rfl (zQS HT_.out (by kernel_rfl)) (by decide) (fun K hK => ?_);refine zBC ?hg (N := 5) ?hd (cs := #[.string (⟨#[]⟩ : ByteArray),.int .i64 0]) (t := 49) ?hr ?_;(case hd => rfl);(case hg => rfl);(case hr => first | (go_simp;done) | (go_simp;rfl));intro aK hg dE hbox hb;have n0_ := am (pkb aA.out hb);have n1_ := bS hb;have n2_ := am (hbox);have n3_ := am ((by rw [hg];exact (zQa pB) : w.heap.size ≤ aK));have n4_ := am ((by rw [hg];exact (zQa pB) : w.heap.size ≤ aK));have n5_ := am ((by rw [hg];exact Nat.ne_of_lt (pkl aA.out) : aN ≠ aK));have n6_ := am ((by rw [hg];exact Nat.ne_of_gt (pkl aA.out) : aK ≠ aN));clear aA HB;have aA := n0_;have HB := n1_;have aG := n2_;have GW130 := n3_;have GE130 := n4_;have NB128_130 := n5_;have NB130_128 := n6_;clear n0_ n1_ n2_ n3_ n4_ n5_ n6_ hb hbox hg;refine hK.out _ _ trivial (fun hHeld => ?_);clear hK K
  refine norm_ (a' := ?_) ?_ ?_
  rotate_left;(show Act.put _ (some 5) _ = _;exact pA);refine one_ (i := 8) (N := none) (bm 10 511) rfl rfl (zQS HT_.out (by kernel_rfl)) (by decide) (fun K hK => ?_);have hs23 : dE.cell? ⟨aK,0,none⟩ = some (.string (⟨#[]⟩ : ByteArray)) := cz0 aG.out;have hfs23 := zQw aG.out 0;have hns23_0 := NB128_130.out;have hms23_0 := NB130_128.out;have hs24 : dE.cell? ⟨aK,1,none⟩ = some (.int .i64 0) := cz1 aG.out;have hfs24 := zQw aG.out 1;have hns24_0 := NB128_130.out;have hms24_0 := NB130_128.out;refine skip_ (w1 := ?_) ?hw rfl ?_ ?_;(case hw => kernel_rfl);rotate_left
  ·go_simp
   rfl
  refine hK.out _ _ trivial (fun hHeld => ?_);clear hK K
  refine puA 9 (some 6) ?_ (bm 10 1023) rfl rfl HT_.out (Or.inl ⟨by kernel_rfl,?_⟩) ?_ ?_ ?_
  rotate_left;(intro w';go_simp;with_reducible rfl);rotate_left;exact pA
  refine done_ (zYr HT_.out (by kernel_rfl)) ?_
  go_upto_if 24 with (first | ((with_reducible refine zQb (f := 53) rfl ?_);refine zQg (some 24) rfl rfl Tryz.func53 (by kernel_rfl) rfl #[.string aW,.string (⟨#[46]⟩ : ByteArray)] rfl (by (try simp only [List.map_toArray,List.map_cons,List.map_nil]);first | done | (simp only [bA];rfl) | rfl | (simp only [List.length_drop,List.length_take];rfl)) ?_;(with_reducible refine (strings_HasPrefix.calls aW (⟨#[46]⟩ : ByteArray) bW _ iV.out).mono ?_);rintro e w' ⟨rfl,⟨nd,rfl⟩⟩;refine ⟨_,rfl,?_⟩))
  (try simp only [Act.put,List.setIfInBounds_toArray,List.set_cons_zero,List.set_cons_succ])
  go_cut [6] (fun v6 wc => ∃ (kq : Nat) (aI : ByteArray) (aQ : ByteArray) (aM : Int) (aC : ByteArray) (aH : Int),v6 = .string aI ∧ Aside0 (dec_cut.j0 kq aI aC aH = some (r1,r2,r3)) ∧ Aside0 (kq ≤ k) ∧ Aside0 (wc.heap[aN]? = some (.cells #[.string aQ,.int .i64 aM] 49 (0,0))) ∧ Aside0 (wc.heap[aK]? = some (.cells #[.string aC,.int .i64 aH] 49 (0,0))) ∧ Aside0 (Below w.heap.size w wc))
  case first =>
   have H := HC19.out;clear HC19;by_cases eH : bW = true
   ·subst eH;rw [if_pos rfl] at H;obtain ⟨fE,H⟩ := iN H;have jC := eq_true fE;have jD : decide (1 ≤ ((aW).size : Int)) = true := decide_eq_true fE;clear fE;obtain ⟨cK,bJ⟩ : ∃ j_ : ByteArray,((aW).extract 1 (aW).size) = j_ := ⟨_,rfl⟩;(replace H : ((dec_digits.f k (cK)).bind fun aJ => (if aJ = 0 then (some (aU,0,false)) else (if 1 ≤ (wrap64 (1 + aJ)) then (if (wrap64 (1 + aJ)) ≤ ((aW).size : Int) then (if (aU).size + ((aW).extract 1 ((wrap64 (1 + aJ)) : Int).toNat).size ≤ 9223372036854775807 then (if 0 ≤ (wrap64 (1 + aJ)) then (dec_cut.j0 k ((aW).extract ((wrap64 (1 + aJ)) : Int).toNat (aW).size) ((aU) ++ ((aW).extract 1 ((wrap64 (1 + aJ)) : Int).toNat)) (wrap64 (-aJ))) else (none)) else (none)) else (none)) else (none)))) = some (r1,r2,r3) := by first | (rw [bJ] at H;exact H) | (simp only [bJ] at H ⊢;exact H) | exact H);obtain ⟨aJ,dR,H⟩ := oB H;rcases iT H with ⟨dF,H⟩ | ⟨dF,H⟩
    ·have bK : (aJ == 0) = true := beq_iff_eq.mpr dF;have bL : (aJ != 0) = false := bne_eq_false_iff_eq.mpr dF;clear dF;(first | rw [bK] | (simp only [i64_w,i32_w];rw [bK]) | rw [bL] | (simp only [i64_w,i32_w];rw [bL]) | skip);simp only [Option.some.injEq,Prod.mk.injEq] at H;obtain ⟨rfl,rfl,rfl⟩ := H;go_wp2_with (first | ((with_reducible refine zQb (f := 52) rfl ?_);refine zQg (some 27) rfl rfl Tryz.func52 (by kernel_rfl) rfl #[.string cK] rfl (by (try simp only [List.map_toArray,List.map_cons,List.map_nil]);first | done | (simp only [bJ];rfl) | rfl | (simp only [List.length_drop,List.length_take];rfl)) ?_;(with_reducible refine (dec_digits.calls k cK aJ _ dR.out).mono ?_);rintro e w' ⟨rfl,⟨nd,rfl⟩⟩;refine ⟨_,rfl,?_⟩;have hnb30 := NB130_128.out;have hnc30 := NB128_130.out;have dG := cf2 aG.out;have dH := cf2 aA.out))
     refine bodyPost_ret (zXg rfl _ _ aN 49 #[.string aU,.int .i64 0] (0,0) _ rfl (by (with_reducible repeat (first | refine zQc ?_ _ | refine zQe ?_ | refine zQd ?_ _));refine zQi (cs := #[.string aU,.int .i64 0]) ?_ 1 _ rfl;(with_reducible repeat (first | refine zQc ?_ _ | refine zQe ?_ | refine zQd ?_ _));refine zQi (cs := #[.string (⟨#[]⟩ : ByteArray),.int .i64 0]) ?_ 0 _ rfl;(with_reducible repeat (first | refine zQc ?_ _ | refine zQe ?_ | refine zQd ?_ _));refine zQA ?_ NB128_130.out _;(with_reducible repeat (first | refine zQc ?_ _ | refine zQe ?_ | refine zQd ?_ _));refine zQA ?_ NB128_130.out _;exact pK aA.out) Tryz.underlying49 rfl (by kernel_rfl)) rfl ?_
     exact ⟨by first | rfl | (simp [errW_none,errW_some] <;> rfl) | (simp only [← bC,← bA,← bJ];first | rfl | (simp [errW_none,errW_some] <;> rfl)) | (simp [*,errW_none,errW_some] <;> rfl),pB⟩
    ·have bK : (aJ == 0) = false := beq_eq_false_iff_ne.mpr dF;have bL : (aJ != 0) = true := bne_iff_ne.mpr dF;(first | rw [bK] | (simp only [i64_w,i32_w];rw [bK]) | rw [bL] | (simp only [i64_w,i32_w];rw [bL]) | skip);obtain ⟨fF,H⟩ := iN H;have gG := eq_true fF;have gH : decide (1 ≤ (wrap64 (1 + aJ))) = true := decide_eq_true fF;obtain ⟨fG,H⟩ := iN H;have gI := eq_true fG;have gJ : decide ((wrap64 (1 + aJ)) ≤ ((aW).size : Int)) = true := decide_eq_true fG;obtain ⟨bF,bY⟩ : ∃ j_ : ByteArray,((aW).extract 1 ((wrap64 (1 + aJ)) : Int).toNat) = j_ := ⟨_,rfl⟩;(replace H : (if (aU).size + (bF).size ≤ 9223372036854775807 then (if 0 ≤ (wrap64 (1 + aJ)) then (dec_cut.j0 k ((aW).extract ((wrap64 (1 + aJ)) : Int).toNat (aW).size) ((aU) ++ (bF)) (wrap64 (-aJ))) else (none)) else (none)) = some (r1,r2,r3) := by first | (rw [bY] at H;exact H) | (simp only [bY] at H ⊢;exact H) | exact H);(try rw [bY] at dR);obtain ⟨fH,H⟩ := iN H;have jE := eq_true fH;have jF : decide ((aU).size + (bF).size ≤ 9223372036854775807) = true := decide_eq_true fH;(try have jG : (9223372036854775807 < (aU).size + (bF).size) = False := eq_false (Nat.not_lt.2 fH));obtain ⟨bX,aY⟩ : ∃ j_ : Int,(wrap64 (1 + aJ)) = j_ := ⟨_,rfl⟩;(replace H : (if 0 ≤ (bX) then (dec_cut.j0 k ((aW).extract ((bX) : Int).toNat (aW).size) ((aU) ++ (bF)) (wrap64 (-aJ))) else (none)) = some (r1,r2,r3) := by first | (rw [aY] at H;exact H) | (simp only [aY] at H ⊢;exact H));(try rw [aY] at bY);(try rw [aY] at gG);(try rw [aY] at gH);(try rw [aY] at fF);(try rw [aY] at gI);(try rw [aY] at gJ);(try rw [aY] at fG);(try rw [aY] at dR);have iW : (IntKind.i64.wrap (1 + aJ)) = bX := (i64_w _).trans aY;obtain ⟨fI,H⟩ := iN H;have jH := eq_true fI;have jI : decide (0 ≤ (bX)) = true := decide_eq_true fI;clear fI;have jJ := eq_true (pD : (bX) ≤ ((aW).size : Int));obtain ⟨fJ,bZ⟩ : ∃ j_ : ByteArray,((aW).extract ((bX) : Int).toNat (aW).size) = j_ := ⟨_,rfl⟩;(replace H : (dec_cut.j0 k fJ ((aU) ++ (bF)) (wrap64 (-aJ))) = some (r1,r2,r3) := by first | (rw [bZ] at H;exact H) | (simp only [bZ] at H ⊢;exact H) | exact H);(try rw [bZ] at dR);have H' := am H;clear H;(try go_wp2_with (first | ((with_reducible refine zQb (f := 52) rfl ?_);refine zQg (some 27) rfl rfl Tryz.func52 (by kernel_rfl) rfl #[.string cK] rfl (by (try simp only [List.map_toArray,List.map_cons,List.map_nil]);first | done | (simp only [bJ];rfl) | rfl | (simp only [List.length_drop,List.length_take];rfl)) ?_;(with_reducible refine (dec_digits.calls k cK aJ _ dR.out).mono ?_);rintro e w' ⟨rfl,⟨nd,rfl⟩⟩;refine ⟨_,rfl,?_⟩)));have n0_ : Aside0 (((dE.setCell ⟨aK,0,none⟩ (.string aU)).setCell ⟨aK,1,none⟩ (.int .i64 0)).heap[aN]? = some (.cells #[.string (⟨#[]⟩ : ByteArray),.int .i64 0] 49 (0,0))) := ⟨by (with_reducible repeat (first | refine zQc ?_ _ | refine zQe ?_ | refine zQd ?_ _));refine zQA ?_ NB128_130.out _;(with_reducible repeat (first | refine zQc ?_ _ | refine zQe ?_ | refine zQd ?_ _));refine zQA ?_ NB128_130.out _;exact pK aA.out⟩;have n1_ : Aside0 (((dE.setCell ⟨aK,0,none⟩ (.string aU)).setCell ⟨aK,1,none⟩ (.int .i64 0)).heap[aK]? = some (.cells #[.string aU,.int .i64 0] 49 (0,0))) := ⟨by (with_reducible repeat (first | refine zQc ?_ _ | refine zQe ?_ | refine zQd ?_ _));refine zQi (cs := #[.string aU,.int .i64 0]) ?_ 1 _ rfl;(with_reducible repeat (first | refine zQc ?_ _ | refine zQe ?_ | refine zQd ?_ _));refine zQi (cs := #[.string (⟨#[]⟩ : ByteArray),.int .i64 0]) ?_ 0 _ rfl;exact pK aG.out⟩;have n2_ : Aside0 (Below w.heap.size w ((dE.setCell ⟨aK,0,none⟩ (.string aU)).setCell ⟨aK,1,none⟩ (.int .i64 0))) := ⟨pB⟩;(try clear aA);(try clear aG);(try clear HB);generalize ((dE.setCell ⟨aK,0,none⟩ (.string aU)).setCell ⟨aK,1,none⟩ (.int .i64 0)) = cO at n0_ n1_ n2_ ⊢;have aA := n0_;have aG := n1_;have HB := n2_;clear n0_ n1_ n2_;(try (rw [zXe cO];generalize hq_ : World.drewN cO _ = cO;have n0_ : Aside0 (cO.heap[aN]? = some (.cells #[.string (⟨#[]⟩ : ByteArray),.int .i64 0] 49 (0,0))) := ⟨by rw [← hq_];exact (pK aA.out)⟩;have n1_ : Aside0 (cO.heap[aK]? = some (.cells #[.string aU,.int .i64 0] 49 (0,0))) := ⟨by rw [← hq_];exact (pK aG.out)⟩;have n2_ : Aside0 (Below w.heap.size w cO) := ⟨by rw [← hq_];exact pB⟩;clear aA aG HB hq_;have aA := n0_;have aG := n1_;have HB := n2_;clear n0_ n1_ n2_));replace aA := am (zQe aA.out);replace aG := am (zQe aG.out);replace HB := am (zQL HB.out);refine zYt (n := 18) (S := fun w' => w'.cell? ⟨aK,0,none⟩ = some (.string aU) ∧ w'.cell? ⟨aK,1,none⟩ = some (.int .i64 0)) (ds := [14,16]) (bm 18 0) (by kernel_rfl) rfl rfl ⟨cz0 aG.out,cz1 aG.out⟩ (fun hHeld => ?_);refine zXB dec_cut.tab9 dec_cut.bits9 (fun HT_ HW_ => ?_);generalize cO.drew = gX at aA aG HB hHeld ⊢
     refine puA 0 (some 31) ?_ (bm 18 1) rfl rfl HT_.out (Or.inl ⟨by kernel_rfl,?_⟩) ?_ ?_ ?_
     rotate_left;(intro w';go_simp;with_reducible rfl);rotate_left;exact pA
     refine puA 2 (some 33) ?_ (bm 18 5) rfl rfl HT_.out (Or.inl ⟨by kernel_rfl,?_⟩) ?_ ?_ ?_
     rotate_left;(intro w';go_simp;with_reducible rfl);rotate_left;exact pA
     refine puA 3 (some 34) ?_ (bm 18 13) rfl rfl HT_.out (Or.inl ⟨by kernel_rfl,?_⟩) ?_ ?_ ?_
     rotate_left;(intro w';go_simp;with_reducible rfl);rotate_left;exact pA
     refine puA 4 (some 35) ?_ (bm 18 29) rfl rfl HT_.out (Or.inl ⟨by kernel_rfl,?_⟩) ?_ ?_ ?_
     rotate_left;(intro w';go_simp;with_reducible rfl);rotate_left;exact pA
     refine puA 5 (some 36) ?_ (bm 18 61) rfl rfl HT_.out (Or.inl ⟨by kernel_rfl,?_⟩) ?_ ?_ ?_
     rotate_left;(intro w';go_simp;with_reducible rfl);rotate_left;exact pA
     refine puA 7 (some 38) ?_ (bm 18 189) rfl rfl HT_.out (Or.inl ⟨by kernel_rfl,?_⟩) ?_ ?_ ?_
     rotate_left;(intro w';go_simp;with_reducible rfl);rotate_left;exact pA
     refine puA 8 (some 39) ?_ (bm 18 445) rfl rfl HT_.out (Or.inl ⟨by kernel_rfl,?_⟩) ?_ ?_ ?_
     rotate_left;(intro w';go_simp;with_reducible rfl);rotate_left;exact pA
     refine puA 9 (some 40) ?_ (bm 18 957) rfl rfl HT_.out (Or.inl ⟨by kernel_rfl,?_⟩) ?_ ?_ ?_
     rotate_left;(intro w';go_simp;with_reducible rfl);rotate_left;exact pA
     refine puA 10 (some 41) ?_ (bm 18 1981) rfl rfl HT_.out (Or.inl ⟨by kernel_rfl,?_⟩) ?_ ?_ ?_
     rotate_left;(intro w';go_simp;with_reducible rfl);rotate_left;exact pA
     refine puA 11 (some 42) ?_ (bm 18 4029) rfl rfl HT_.out (Or.inl ⟨by kernel_rfl,?_⟩) ?_ ?_ ?_
     rotate_left;(intro w';go_simp;with_reducible rfl);rotate_left;exact pA
     refine puA 12 (some 43) ?_ (bm 18 8125) rfl rfl HT_.out (Or.inl ⟨by kernel_rfl,?_⟩) ?_ ?_ ?_
     rotate_left;(intro w';go_simp;with_reducible rfl);rotate_left;exact pA
     refine take_ (i := 1) (N := some 32) (v := ?_) (a' := ?_) (bm 18 8127) rfl rfl (zQV HT_.out HW_.out (by kernel_rfl)) (fun _ _ _ h => h) (Or.inl ⟨by kernel_rfl,?_⟩) hHeld ?_ ?_
     rotate_left;(rintro w' ⟨s0,s1⟩;go_simp;with_reducible rfl);rotate_left;exact pA
     refine puA 6 (some 37) ?_ (bm 18 8191) rfl rfl HT_.out (Or.inl ⟨by kernel_rfl,?_⟩) ?_ ?_ ?_
     rotate_left;(intro w';go_simp;with_reducible rfl);rotate_left;exact pA
     refine puA 13 (some 44) ?_ (bm 18 16383) rfl rfl HT_.out (Or.inl ⟨by kernel_rfl,?_⟩) ?_ ?_ ?_
     rotate_left;(intro w';go_simp;with_reducible rfl);rotate_left;exact pA;refine last_ (i := 14) (N := none) (bm 18 32767) rfl rfl (zQS HT_.out (by kernel_rfl)) (by decide) (fun K hK => ?_);have hs43 : gX.cell? ⟨aK,0,none⟩ = some (.string aU) := cz0 aG.out;have hfs43 := zQw aG.out 0;have hns43_0 := NB128_130.out;have hms43_0 := NB130_128.out;refine skip_ (w1 := ?_) ?hw rfl ?_ ?_;(case hw => kernel_rfl);rotate_left
     ·go_simp
      rfl
     refine hK.out _ _ ?_
     clear hK K
     refine puA 15 (some 45) ?_ (bm 18 65535) rfl rfl HT_.out (Or.inl ⟨by kernel_rfl,?_⟩) ?_ ?_ ?_
     rotate_left;(intro w';go_simp;with_reducible rfl);rotate_left;exact pA;refine last_ (i := 16) (N := none) (bm 18 131071) rfl rfl (zQS HT_.out (by kernel_rfl)) (by decide) (fun K hK => ?_);have hs44 : gX.cell? ⟨aK,1,none⟩ = some (.int .i64 0) := cz1 aG.out;have hfs44 := zQw aG.out 1;have hns44_0 := NB128_130.out;have hms44_0 := NB130_128.out;refine skip_ (w1 := ?_) ?hw rfl ?_ ?_;(case hw => kernel_rfl);rotate_left
     ·go_simp
      rfl
     refine hK.out _ _ ?_
     clear hK K
     refine puA 17 (some 6) ?_ (bm 18 262143) rfl rfl HT_.out (Or.inl ⟨by kernel_rfl,?_⟩) ?_ ?_ ?_
     rotate_left;(intro w';go_simp;with_reducible rfl);rotate_left;exact pA
     refine done_ (zYr HT_.out (by kernel_rfl)) ?_
     (try go_wp2);go_meet
     case rel => exact ⟨_,(fJ),((⟨#[]⟩ : ByteArray)),(0),((aU) ++ (bF)),(wrap64 (-aJ)),(by first | rfl | (simp;done) | (simp only [← bZ] <;> (first | rfl | simp)) | (simp [*];done)),H',⟨by first | omega | exact Nat.le_refl _⟩,⟨by (with_reducible repeat (first | refine zQc ?_ _ | refine zQe ?_ | refine zQd ?_ _));refine zQA ?_ NB128_130.out _;(with_reducible repeat (first | refine zQc ?_ _ | refine zQe ?_ | refine zQd ?_ _));refine zQA ?_ NB128_130.out _;exact pK aA.out⟩,⟨by (with_reducible repeat (first | refine zQc ?_ _ | refine zQe ?_ | refine zQd ?_ _));refine zQi (cs := #[.string ((aU) ++ (bF)),.int .i64 0]) ?_ 1 _ rfl;(with_reducible repeat (first | refine zQc ?_ _ | refine zQe ?_ | refine zQd ?_ _));refine zQi (cs := #[.string aU,.int .i64 0]) ?_ 0 _ rfl;exact pK aG.out⟩,⟨pB⟩⟩
   ·replace eH := Bool.eq_false_iff.mpr eH;subst eH;rw [if_neg (show ¬ (false = true) by decide)] at H;have H' := am H;clear H;go_wp2;go_meet
    case rel => exact ⟨_,(aW),((⟨#[]⟩ : ByteArray)),(0),(aU),(0),(by first | rfl | (simp;done) | (simp only [← bA] <;> (first | rfl | simp)) | (simp [*];done)),H',⟨by first | omega | exact Nat.le_refl _⟩,⟨by (with_reducible repeat (first | refine zQc ?_ _ | refine zQe ?_ | refine zQd ?_ _));refine zQA ?_ NB128_130.out _;(with_reducible repeat (first | refine zQc ?_ _ | refine zQe ?_ | refine zQd ?_ _));refine zQA ?_ NB128_130.out _;exact pK aA.out⟩,⟨by (with_reducible repeat (first | refine zQc ?_ _ | refine zQe ?_ | refine zQd ?_ _));refine zQi (cs := #[.string aU,.int .i64 0]) ?_ 1 _ rfl;(with_reducible repeat (first | refine zQc ?_ _ | refine zQe ?_ | refine zQd ?_ _));refine zQi (cs := #[.string (⟨#[]⟩ : ByteArray),.int .i64 0]) ?_ 0 _ rfl;exact pK aG.out⟩,⟨pB⟩⟩
  case rest =>
   clear HC19;(try clear iI iJ iK iL iM iO c9 fC fD);(try clear dB dC dG dH);obtain ⟨kq,aI,aQ,aM,aC,aH,rfl,HA,aZ,aA,aG,HB⟩ := hcut
   cases kq with
   | zero => exact absurd HA.out (by simp [dec_cut.j0])
   | succ iP =>
    have H := HA.out;clear HA;simp only [dec_cut.j0] at H;rcases iT H with ⟨cZ,H⟩ | ⟨cZ,H⟩
    ·have eO : (aI.toList == ([] : List UInt8)) = true := beq_iff_eq.mpr cZ;have eP : (aI.toList != ([] : List UInt8)) = false := bne_eq_false_iff_eq.mpr cZ;clear cZ;simp only [Option.some.injEq,Prod.mk.injEq] at H;obtain ⟨rfl,rfl,rfl⟩ := H;have hnb46 := NB130_128.out;have hnc46 := NB128_130.out;have dS := cf2 aG.out;have dU := cf2 aA.out;go_wp2
     refine bodyPost_ret (zXg rfl _ _ aN 49 #[.string aC,.int .i64 aH] (0,0) _ rfl (by (with_reducible repeat (first | refine zQc ?_ _ | refine zQe ?_ | refine zQd ?_ _));refine zQi (cs := #[.string aC,.int .i64 aM]) ?_ 1 _ rfl;(with_reducible repeat (first | refine zQc ?_ _ | refine zQe ?_ | refine zQd ?_ _));refine zQi (cs := #[.string aQ,.int .i64 aM]) ?_ 0 _ rfl;exact pK aA.out) Tryz.underlying49 rfl (by kernel_rfl)) rfl ?_
     exact ⟨by first | rfl | (simp [errW_none,errW_some] <;> rfl) | (simp only [← bC,← bA];first | rfl | (simp [errW_none,errW_some] <;> rfl)) | (simp [*,errW_none,errW_some] <;> rfl),pB⟩
    ·have eO : (aI.toList == ([] : List UInt8)) = false := beq_eq_false_iff_ne.mpr cZ;have eP : (aI.toList != ([] : List UInt8)) = true := bne_iff_ne.mpr cZ;have HC49 := am H;clear H;go_upto_region 12 with (fail)
     go_cut [56] (fun v56 wc => ∃ (kq : Nat) (bM : Bool),v56 = .bool bM ∧ Aside0 (dec_cut.j1 kq aI bM aC aH = some (r1,r2,r3)) ∧ Aside0 (kq ≤ iP) ∧ Aside0 (wc.heap[aN]? = some (.cells #[.string aQ,.int .i64 aM] 49 (0,0))) ∧ Aside0 (wc.heap[aK]? = some (.cells #[.string aC,.int .i64 aH] 49 (0,0))) ∧ Aside0 (Below w.heap.size w wc))
     case first =>
      have H := HC49.out;clear HC49;obtain ⟨gY,H⟩ := iN H;have eQ : decide (0 < (aI.size : Int)) = true := decide_eq_true gY;have eT : decide (0 < aI.size) = true := decide_eq_true zO;clear gY;(first | rw [eQ] | (simp only [i64_w,i32_w];rw [eQ]) | rw [eT] | (simp only [i64_w,i32_w];rw [eT]) | skip);rcases iT H with ⟨dI,H⟩ | ⟨dI,H⟩
      ·have gK : ((bt aI 0) == 101) = true := beq_iff_eq.mpr dI;have gL : ((bt aI 0) != 101) = false := bne_eq_false_iff_eq.mpr dI;clear dI;have H' := am H;clear H;have fK : 0 ≤ (0 : Int) := zO;have dV : 0 < aI.size := (by have : (0 : Int) < (aI.size : Int) := pD;omega);have iQ : ∀ h : 0 < aI.size,((aI[0]'h).toNat : Int) = bt aI 0 := bt_at aI 0;clear fK;have qi51 : (0 < (aI.size : Int)) = True := eq_true pD;replace dV := eq_true dV;go_wp2;go_meet
       case rel => exact ⟨_,(false),pS,H',⟨by have := aZ.out;first | omega | exact Nat.le_refl _⟩,⟨pK aA.out⟩,⟨pK aG.out⟩,⟨pB⟩⟩
      ·have gK : ((bt aI 0) == 101) = false := beq_eq_false_iff_ne.mpr dI;have gL : ((bt aI 0) != 101) = true := bne_iff_ne.mpr dI;have H' := am H;clear H;have fK : 0 ≤ (0 : Int) := zO;have dV : 0 < aI.size := (by have : (0 : Int) < (aI.size : Int) := pD;omega);have iQ : ∀ h : 0 < aI.size,((aI[0]'h).toNat : Int) = bt aI 0 := bt_at aI 0;clear fK;have qi51 : (0 < (aI.size : Int)) = True := eq_true pD;replace dV := eq_true dV;have iX : 0 ≤ (0 : Int) := zO;have gZ : 0 < aI.size := (by have : (0 : Int) < (aI.size : Int) := pD;omega);have jS : ∀ h : 0 < aI.size,((aI[0]'h).toNat : Int) = bt aI 0 := bt_at aI 0;clear iX;have qi53 : (0 < (aI.size : Int)) = True := eq_true pD;replace gZ := eq_true gZ;go_wp2;go_meet
       case rel => exact ⟨_,(((bt aI 0) != 69)),pS,H',⟨by have := aZ.out;first | omega | exact Nat.le_refl _⟩,⟨pK aA.out⟩,⟨pK aG.out⟩,⟨pB⟩⟩
     case rest =>
      clear HC49;(try clear cZ eO eP);(try clear dB dC dG dH dS dU);obtain ⟨kq,bM,rfl,HA,bB,aA,aG,HB⟩ := hcut
      cases kq with
      | zero => exact absurd HA.out (by simp [dec_cut.j1])
      | succ dN =>
       have H := HA.out;clear HA;simp only [dec_cut.j1] at H;by_cases dW : bM = true
       ·subst dW;rw [if_pos rfl] at H;simp only [Option.some.injEq,Prod.mk.injEq] at H;obtain ⟨rfl,rfl,rfl⟩ := H;have hnb55 := NB130_128.out;have hnc55 := NB128_130.out;have eX := cf2 aG.out;have eY := cf2 aA.out;go_wp2
        refine bodyPost_ret (zXg rfl _ _ aN 49 #[.string aC,.int .i64 aH] (0,0) _ rfl (by (with_reducible repeat (first | refine zQc ?_ _ | refine zQe ?_ | refine zQd ?_ _));refine zQi (cs := #[.string aC,.int .i64 aM]) ?_ 1 _ rfl;(with_reducible repeat (first | refine zQc ?_ _ | refine zQe ?_ | refine zQd ?_ _));refine zQi (cs := #[.string aQ,.int .i64 aM]) ?_ 0 _ rfl;exact pK aA.out) Tryz.underlying49 rfl (by kernel_rfl)) rfl ?_
        exact ⟨by first | rfl | (simp [errW_none,errW_some] <;> rfl) | (simp only [← bC,← bA];first | rfl | (simp [errW_none,errW_some] <;> rfl)) | (simp [*,errW_none,errW_some] <;> rfl),pB⟩
       ·replace dW := Bool.eq_false_iff.mpr dW;subst dW;rw [if_neg (show ¬ (false = true) by decide)] at H;obtain ⟨fM,H⟩ := iN H;have gM := eq_true fM;have gN : decide (1 ≤ (aI.size : Int)) = true := decide_eq_true fM;clear fM;obtain ⟨aD,bG⟩ : ∃ j_ : ByteArray,(aI.extract 1 aI.size) = j_ := ⟨_,rfl⟩;(replace H : (if (aD).toList = ([] : List UInt8) then (dec_cut.j2 dN aD 1 false aC aH) else (if 0 < ((aD).size : Int) then (if (bt (aD) 0) = 43 then (dec_cut.j2 dN aD 1 true aC aH) else (dec_cut.j2 dN aD 1 ((bt (aD) 0) == 45) aC aH)) else (none))) = some (r1,r2,r3) := by first | (rw [bG] at H;exact H) | (simp only [bG] at H ⊢;exact H) | exact H);have HC60 := am H;clear H;go_upto_region 16 with (fail)
        go_cut [71] (fun v71 wc => ∃ (kq : Nat) (bN : Bool),v71 = .bool bN ∧ Aside0 (dec_cut.j2 kq aD 1 bN aC aH = some (r1,r2,r3)) ∧ Aside0 (kq ≤ dN) ∧ Aside0 (wc.heap[aN]? = some (.cells #[.string aQ,.int .i64 aM] 49 (0,0))) ∧ Aside0 (wc.heap[aK]? = some (.cells #[.string aC,.int .i64 aH] 49 (0,0))) ∧ Aside0 (Below w.heap.size w wc))
        case first =>
         have H := HC60.out;clear HC60;rcases iT H with ⟨dJ,H⟩ | ⟨dJ,H⟩
         ·have bO : ((aD).toList == ([] : List UInt8)) = true := beq_iff_eq.mpr dJ;have bP : ((aD).toList != ([] : List UInt8)) = false := bne_eq_false_iff_eq.mpr dJ;clear dJ;(first | rw [bO] | (simp only [i64_w,i32_w];rw [bO]) | rw [bP] | (simp only [i64_w,i32_w];rw [bP]) | skip);have H' := am H;clear H;go_wp2;go_meet
          case rel => exact ⟨_,(false),pS,H',⟨by have := aZ.out;have := bB.out;first | omega | exact Nat.le_refl _⟩,⟨pK aA.out⟩,⟨pK aG.out⟩,⟨pB⟩⟩
         ·have bO : ((aD).toList == ([] : List UInt8)) = false := beq_eq_false_iff_ne.mpr dJ;have bP : ((aD).toList != ([] : List UInt8)) = true := bne_iff_ne.mpr dJ;(first | rw [bO] | (simp only [i64_w,i32_w];rw [bO]) | rw [bP] | (simp only [i64_w,i32_w];rw [bP]) | skip);obtain ⟨iA,H⟩ := iN H;have jK : decide (0 < ((aD).size : Int)) = true := decide_eq_true iA;have jL : decide (0 < (aD).size) = true := decide_eq_true zO;clear iA;rcases iT H with ⟨dK,H⟩ | ⟨dK,H⟩
          ·have gP : ((bt (aD) 0) == 43) = true := beq_iff_eq.mpr dK;have gQ : ((bt (aD) 0) != 43) = false := bne_eq_false_iff_eq.mpr dK;clear dK;have H' := am H;clear H;have fO : 0 ≤ (0 : Int) := zO;have dX : 0 < aD.size := (by have : (0 : Int) < (aD.size : Int) := pD;omega);have iR : ∀ h : 0 < aD.size,((aD[0]'h).toNat : Int) = bt aD 0 := bt_at aD 0;clear fO;have qi63 : (0 < (aD.size : Int)) = True := eq_true pD;replace dX := eq_true dX;go_wp2;go_meet
           case rel => exact ⟨_,(true),pS,H',⟨by have := aZ.out;have := bB.out;first | omega | exact Nat.le_refl _⟩,⟨pK aA.out⟩,⟨pK aG.out⟩,⟨pB⟩⟩
          ·have gP : ((bt (aD) 0) == 43) = false := beq_eq_false_iff_ne.mpr dK;have gQ : ((bt (aD) 0) != 43) = true := bne_iff_ne.mpr dK;have H' := am H;clear H;have fO : 0 ≤ (0 : Int) := zO;have dX : 0 < aD.size := (by have : (0 : Int) < (aD.size : Int) := pD;omega);have iR : ∀ h : 0 < aD.size,((aD[0]'h).toNat : Int) = bt aD 0 := bt_at aD 0;clear fO;have qi63 : (0 < (aD.size : Int)) = True := eq_true pD;replace dX := eq_true dX;have iY : 0 ≤ (0 : Int) := zO;have iB : 0 < aD.size := (by have : (0 : Int) < (aD.size : Int) := pD;omega);have jT : ∀ h : 0 < aD.size,((aD[0]'h).toNat : Int) = bt aD 0 := bt_at aD 0;clear iY;have qi65 : (0 < (aD.size : Int)) = True := eq_true pD;replace iB := eq_true iB;go_wp2;go_meet
           case rel => exact ⟨_,(((bt (aD) 0) == 45)),(by first | rfl | (simp;done) | (simp only [← bG] <;> (first | rfl | simp)) | (simp [*];done)),H',⟨by have := aZ.out;have := bB.out;first | omega | exact Nat.le_refl _⟩,⟨pK aA.out⟩,⟨pK aG.out⟩,⟨pB⟩⟩
        case rest =>
         clear HC60;(try clear dW gM gN);(try clear dB dC dG dH dS dU eX eY);obtain ⟨kq,bN,rfl,HA,bH,aA,aG,HB⟩ := hcut
         cases kq with
         | zero => exact absurd HA.out (by simp [dec_cut.j2])
         | succ eF =>
          have H := HA.out;clear HA;simp only [dec_cut.j2] at H;have HC66 := am H;clear H
          go_upto_if 71 with (fail)
          go_cut [6,8] (fun v6 v8 wc => ∃ (kq : Nat) (aT : ByteArray) (bE : Int),v6 = .string aT ∧ v8 = .int .i64 bE ∧ Aside0 (dec_cut.j3 kq aT bE aC aH = some (r1,r2,r3)) ∧ Aside0 (kq ≤ eF) ∧ Aside0 (wc.heap[aN]? = some (.cells #[.string aQ,.int .i64 aM] 49 (0,0))) ∧ Aside0 (wc.heap[aK]? = some (.cells #[.string aC,.int .i64 aH] 49 (0,0))) ∧ Aside0 (Below w.heap.size w wc))
          case first =>
           have H := HC66.out;clear HC66;by_cases eZ : bN = true
           ·subst eZ;rw [if_pos rfl] at H;obtain ⟨iC,H⟩ := iN H;have fA : decide (0 < (aD.size : Int)) = true := decide_eq_true iC;have fB : decide (0 < aD.size) = true := decide_eq_true zO;clear iC;(first | rw [fA] | (simp only [i64_w,i32_w];rw [fA]) | rw [fB] | (simp only [i64_w,i32_w];rw [fB]) | skip);rcases iT H with ⟨dL,H⟩ | ⟨dL,H⟩
            ·have gT : ((bt aD 0) == 45) = true := beq_iff_eq.mpr dL;have gU : ((bt aD 0) != 45) = false := bne_eq_false_iff_eq.mpr dL;clear dL;obtain ⟨fP,H⟩ := iN H;have jM := eq_true fP;have jN : decide (1 ≤ (aD.size : Int)) = true := decide_eq_true fP;clear fP;obtain ⟨fQ,dO⟩ : ∃ j_ : ByteArray,(aD.extract 1 aD.size) = j_ := ⟨_,rfl⟩;(replace H : (dec_cut.j3 eF fQ (-1) aC aH) = some (r1,r2,r3) := by first | (rw [dO] at H;exact H) | (simp only [dO] at H ⊢;exact H) | exact H);have H' := am H;clear H;have fT : 0 ≤ (0 : Int) := zO;have dY : 0 < aD.size := (by have : (0 : Int) < (aD.size : Int) := pD;omega);have iU : ∀ h : 0 < aD.size,((aD[0]'h).toNat : Int) = bt aD 0 := bt_at aD 0;clear fT;have qi69 : (0 < (aD.size : Int)) = True := eq_true pD;replace dY := eq_true dY;go_wp2;go_meet
             case rel => exact ⟨_,(fQ),((-1)),(by first | rfl | (simp;done) | (simp only [← dO] <;> (first | rfl | simp)) | (simp [*];done)),pS,H',⟨by have := aZ.out;have := bB.out;have := bH.out;first | omega | exact Nat.le_refl _⟩,⟨pK aA.out⟩,⟨pK aG.out⟩,⟨pB⟩⟩
            ·have gT : ((bt aD 0) == 45) = false := beq_eq_false_iff_ne.mpr dL;have gU : ((bt aD 0) != 45) = true := bne_iff_ne.mpr dL;obtain ⟨fU,H⟩ := iN H;have jO := eq_true fU;have jP : decide (1 ≤ (aD.size : Int)) = true := decide_eq_true fU;clear fU;obtain ⟨fV,dP⟩ : ∃ j_ : ByteArray,(aD.extract 1 aD.size) = j_ := ⟨_,rfl⟩;(replace H : (dec_cut.j3 eF fV 1 aC aH) = some (r1,r2,r3) := by first | (rw [dP] at H;exact H) | (simp only [dP] at H ⊢;exact H) | exact H);have H' := am H;clear H;have fT : 0 ≤ (0 : Int) := zO;have dY : 0 < aD.size := (by have : (0 : Int) < (aD.size : Int) := pD;omega);have iU : ∀ h : 0 < aD.size,((aD[0]'h).toNat : Int) = bt aD 0 := bt_at aD 0;clear fT;have qi69 : (0 < (aD.size : Int)) = True := eq_true pD;replace dY := eq_true dY;go_wp2;go_meet
             case rel => exact ⟨_,(fV),(1),(by first | rfl | (simp;done) | (simp only [← dP] <;> (first | rfl | simp)) | (simp [*];done)),pS,H',⟨by have := aZ.out;have := bB.out;have := bH.out;first | omega | exact Nat.le_refl _⟩,⟨pK aA.out⟩,⟨pK aG.out⟩,⟨pB⟩⟩
           ·replace eZ := Bool.eq_false_iff.mpr eZ;subst eZ;rw [if_neg (show ¬ (false = true) by decide)] at H;have H' := am H;clear H;go_wp2;go_meet
            case rel => exact ⟨_,(aD),(1),(by first | rfl | (simp;done) | (simp only [← bG] <;> (first | rfl | simp)) | (simp [*];done)),pS,H',⟨by have := aZ.out;have := bB.out;have := bH.out;first | omega | exact Nat.le_refl _⟩,⟨pK aA.out⟩,⟨pK aG.out⟩,⟨pB⟩⟩
          case rest =>
           clear HC66;(try clear dB dC dG dH dS dU eX eY);obtain ⟨kq,aT,bE,rfl,rfl,HA,dQ,aA,aG,HB⟩ := hcut
           cases kq with
           | zero => exact absurd HA.out (by simp [dec_cut.j3])
           | succ fZ =>
            have H := HA.out;clear HA;simp only [dec_cut.j3] at H;have HC75 := am H;clear H;go_upto_region 20 with (fail)
            go_cut [85] (fun v85 wc => ∃ (kq : Nat) (bQ : Bool),v85 = .bool bQ ∧ Aside0 (dec_cut.j4 kq aT bE bQ aC aH = some (r1,r2,r3)) ∧ Aside0 (kq ≤ fZ) ∧ Aside0 (wc.heap[aN]? = some (.cells #[.string aQ,.int .i64 aM] 49 (0,0))) ∧ Aside0 (wc.heap[aK]? = some (.cells #[.string aC,.int .i64 aH] 49 (0,0))) ∧ Aside0 (Below w.heap.size w wc))
            case first =>
             have H := HC75.out;clear HC75;rcases iT H with ⟨dM,H⟩ | ⟨dM,H⟩
             ·have bT : (aT.toList == ([] : List UInt8)) = true := beq_iff_eq.mpr dM;have bV : (aT.toList != ([] : List UInt8)) = false := bne_eq_false_iff_eq.mpr dM;clear dM;(first | rw [bT] | (simp only [i64_w,i32_w];rw [bT]) | rw [bV] | (simp only [i64_w,i32_w];rw [bV]) | skip);have H' := am H;clear H;go_wp2;go_meet
              case rel => exact ⟨_,(true),pS,H',⟨by have := aZ.out;have := bB.out;have := bH.out;have := dQ.out;first | omega | exact Nat.le_refl _⟩,⟨pK aA.out⟩,⟨pK aG.out⟩,⟨pB⟩⟩
             ·have bT : (aT.toList == ([] : List UInt8)) = false := beq_eq_false_iff_ne.mpr dM;have bV : (aT.toList != ([] : List UInt8)) = true := bne_iff_ne.mpr dM;(first | rw [bT] | (simp only [i64_w,i32_w];rw [bT]) | rw [bV] | (simp only [i64_w,i32_w];rw [bV]) | skip);obtain ⟨gB,iZ,H⟩ := oB H;have H' := am H;clear H;(go_wp2_with (first | (go_at_call 52;(with_reducible refine (dec_digits.calls fZ aT gB _ iZ.out).mono ?_);rintro e w' ⟨rfl,⟨nd,rfl⟩⟩)));go_meet
              case rel => exact ⟨_,((gB != (aT.size : Int))),pS,H',⟨by have := aZ.out;have := bB.out;have := bH.out;have := dQ.out;first | omega | exact Nat.le_refl _⟩,⟨pK aA.out⟩,⟨pK aG.out⟩,⟨pB⟩⟩
            case rest =>
             clear HC75;(try clear dB dC dG dH dS dU eX eY);obtain ⟨kq,bQ,rfl,HA,gD,aA,aG,HB⟩ := hcut
             cases kq with
             | zero => exact absurd HA.out (by simp [dec_cut.j4])
             | succ gF =>
              have H := HA.out;clear HA;simp only [dec_cut.j4] at H;by_cases dZ : bQ = true
              ·subst dZ;rw [if_pos rfl] at H;simp only [Option.some.injEq,Prod.mk.injEq] at H;obtain ⟨rfl,rfl,rfl⟩ := H;have hnb79 := NB130_128.out;have hnc79 := NB128_130.out;have jA := cf2 aG.out;have jB := cf2 aA.out;go_wp2
               refine bodyPost_ret (zXg rfl _ _ aN 49 #[.string aC,.int .i64 aH] (0,0) _ rfl (by (with_reducible repeat (first | refine zQc ?_ _ | refine zQe ?_ | refine zQd ?_ _));refine zQi (cs := #[.string aC,.int .i64 aM]) ?_ 1 _ rfl;(with_reducible repeat (first | refine zQc ?_ _ | refine zQe ?_ | refine zQd ?_ _));refine zQi (cs := #[.string aQ,.int .i64 aM]) ?_ 0 _ rfl;exact pK aA.out) Tryz.underlying49 rfl (by kernel_rfl)) rfl ?_
               exact ⟨by first | rfl | (simp [errW_none,errW_some] <;> rfl) | (simp only [← bC,← bA,← bG];first | rfl | (simp [errW_none,errW_some] <;> rfl)) | (simp [*,errW_none,errW_some] <;> rfl),pB⟩
              ·replace dZ := Bool.eq_false_iff.mpr dZ;subst dZ;rw [if_neg (show ¬ (false = true) by decide)] at H;have H' := am H;clear H;go_wp2
               go_loopg [9,89] gF (fun kq v9 v89 w' => ∃ (bI : Int) (aX : Int),v9 = .int .i64 bI ∧ v89 = .int .i64 aX ∧ Aside0 (dec_cut.l0 kq aT bE bI (aT.size : Int) aX aC aH = some (r1,r2,r3)) ∧ Aside0 (kq ≤ gF) ∧ Aside0 (w'.heap[aN]? = some (.cells #[.string aQ,.int .i64 aM] 49 (0,0))) ∧ Aside0 (w'.heap[aK]? = some (.cells #[.string aC,.int .i64 aH] 49 (0,0))) ∧ Aside0 (Below w.heap.size w w'))
               case atStart => exact ⟨(0),(0),pS,pS,H',⟨Nat.le_refl _⟩,⟨pK aA.out⟩,⟨pK aG.out⟩,⟨pB⟩⟩
               case round =>
                clear H';(try clear dZ);(try clear dB dC dG dH dS dU eX eY jA jB);obtain ⟨bI,aX,rfl,rfl,HA,iD,aA,aG,HB⟩ := hrel
                cases gk with
                | zero => exact absurd HA.out (by simp [dec_cut.l0])
                | succ k6 =>
                 have H := HA.out;clear HA;simp only [dec_cut.l0] at H;rcases iT H with ⟨eB,H⟩ | ⟨eB,H⟩
                 ·have gV : decide (aX < (aT.size : Int)) = true := decide_eq_true eB;clear eB;obtain ⟨iE,H⟩ := iN H;have jQ : decide (0 ≤ aX) = true := decide_eq_true iE;clear iE;obtain ⟨iF,H⟩ := iN H;have jR : decide (aX < (aT.size : Int)) = true := decide_eq_true iF;clear iF;obtain ⟨eG,cB⟩ : ∃ j_ : Int,(mn (wrap64 ((wrap64 (10 * bI)) + (((bt aT aX) - 48) % 256))) 9999) = j_ := ⟨_,rfl⟩;(replace H : (dec_cut.l0 k6 aT bE eG (aT.size : Int) (wrap64 (aX + 1)) aC aH) = some (r1,r2,r3) := by first | (rw [cB] at H;exact H) | (simp only [cB] at H ⊢;exact H));have hji86_ : (if 9999 < (wrap64 ((wrap64 (10 * bI)) + (((bt aT aX) - 48) % 256))) then 9999 else (wrap64 ((wrap64 (10 * bI)) + (((bt aT aX) - 48) % 256)))) = eG := cB;have H' := am H;clear H;have iG : 0 ≤ (aX : Int) := pD;have iH : aX < (aT.size : Int) := pD;have jU := bt_at aT aX;replace iG := eq_true iG;replace iH := eq_true iH;go_wp2
                  go_roundg k6
                  case measure => have := aZ.out;have := bB.out;have := bH.out;have := dQ.out;have := gD.out;have := iD.out;omega
                  case rel => exact ⟨(eG),(wrap64 (aX + 1)),(by first | rfl | (simp;done) | (simp only [← cB] <;> (first | rfl | simp)) | (simp [*];done)),pS,H',⟨by have := aZ.out;have := bB.out;have := bH.out;have := dQ.out;have := gD.out;have := iD.out;omega⟩,⟨pK aA.out⟩,⟨pK aG.out⟩,⟨pB⟩⟩
                 ·have gV : decide (aX < (aT.size : Int)) = false := decide_eq_false eB;clear eB;simp only [Option.some.injEq,Prod.mk.injEq] at H;obtain ⟨rfl,rfl,rfl⟩ := H;have hnb87 := NB130_128.out;have hnc87 := NB128_130.out;have jX := cf2 aG.out;have jY := cf2 aA.out;go_wp2
                  refine bodyPost_ret (zXg rfl _ _ aN 49 #[.string aC,.int .i64 (wrap64 (aH + (wrap64 (bE * bI))))] (0,0) _ rfl (by (with_reducible repeat (first | refine zQc ?_ _ | refine zQe ?_ | refine zQd ?_ _));refine zQi (cs := #[.string aC,.int .i64 aM]) ?_ 1 _ rfl;(with_reducible repeat (first | refine zQc ?_ _ | refine zQe ?_ | refine zQd ?_ _));refine zQi (cs := #[.string aQ,.int .i64 aM]) ?_ 0 _ rfl;(with_reducible repeat (first | refine zQc ?_ _ | refine zQe ?_ | refine zQd ?_ _));refine zQA ?_ NB128_130.out _;exact pK aA.out) Tryz.underlying49 rfl (by kernel_rfl)) rfl ?_
                  exact ⟨by first | rfl | (simp [errW_none,errW_some] <;> rfl) | (simp only [← bC,← bA,← bG];first | rfl | (simp [errW_none,errW_some] <;> rfl)) | (simp [*,errW_none,errW_some] <;> rfl),pB⟩
end Go.Proofs.YtongfmeediokmaaGreatDoor.Pr
end
section
namespace Go.Proofs.YtongfmeediokmaaGreatDoor.Pr
open Go.RowKit YtongfmeediokmaaGreatDoorW.PrintWords YtongfmeediokmaaGreatDoorW.PrintLast YtongfmeediokmaaGreatDoorW.PrintMore YtongfmeediokmaaGreatDoor.Pv
attribute [local go_sem] zXb zQZ zXj zXi zQP zQO zXa zQY
set_option maxHeartbeats 8000000
set_option maxRecDepth 100000
def b_times.l0 : Nat → Int → List Int → Int → List Int → Int → Int → Option (List Int)
 | 0,_,_,_,_,_,_ => none
 | k + 1,x1,x7,x8,x17,x18,x19 => if x19 < x18 then (if 0 ≤ x19 then (if x19 < (x17.length : Int) then (if x7.length < 35184372088832 then (b_times.l0 k x1 (x7 ++ [(IntKind.u64.wrap (x8 + (IntKind.u64.wrap ((IntKind.u64.wrap (rd x17 x19)) * (IntKind.u64.wrap (x1)))))) % 4294967296]) ((IntKind.u64.wrap (x8 + (IntKind.u64.wrap ((IntKind.u64.wrap (rd x17 x19)) * (IntKind.u64.wrap (x1)))))) / 4294967296) x17 x18 (wrap64 (x19 + 1))) else (none)) else (none)) else (none)) else (if x7.length < 35184372088832 then ((b_trim.f k (x7 ++ [(x8) % 4294967296])).bind fun t144 => (some t144)) else (none))
def b_times.f (k : Nat) (l0 : List Int) (a1 : Int) (a2 : Int) : Option (List Int) := if 0 ≤ wrap64 ((l0.length : Int) + 1) then (if (wrap64 ((l0.length : Int) + 1) : Int).toNat ≤ 70368744177664 then (b_times.l0 k a1 (List.replicate 0 0) (IntKind.u64.wrap (a2)) l0 (l0.length : Int) 0) else (none)) else (none)
theorem b_times.mono_l : ∀ k,(∀ y0 y1 y2 y3 y4 y5,LeO (b_times.l0 k y0 y1 y2 y3 y4 y5) (b_times.l0 (k + 1) y0 y1 y2 y3 y4 y5))
 | 0 => fun _ _ _ _ _ _ r h => by simp [b_times.l0] at h
 | k + 1 => by
  have ih0 := b_times.mono_l k
  ·intro y0 y1 y2 y3 y4 y5;unfold b_times.l0;repeat' first | (with_reducible exact ih0 _ _ _ _ _ _) | (with_reducible exact b_trim.mono _ _) | (with_reducible exact LeO.refl _) | (with_reducible exact LeO.none _) | (with_reducible refine LeO.ite ?_ ?_) | (with_reducible refine LeO.bind ?_ (fun _ => ?_))
theorem b_times.mono : ∀ a0 a1 a2 k,LeO (b_times.f k a0 a1 a2) (b_times.f (k + 1) a0 a1 a2) := by
 intro a0 a1 a2 k;have ih0 := b_times.mono_l k;unfold b_times.f;repeat' first | (with_reducible exact ih0 _ _ _ _ _ _) | (with_reducible exact b_trim.mono _ _) | (with_reducible exact LeO.refl _) | (with_reducible exact LeO.none _) | (with_reducible refine LeO.ite ?_ ?_) | (with_reducible refine LeO.bind ?_ (fun _ => ?_))
theorem b_times.calls (k : Nat) (A0 : Option Addr) (c0 : Nat) (l0 : List Int) (a1 : Int) (a2 : Int) (r : List Int) (w : World) (hr0 : Kd.C (Kd.int .u32) w A0 l0.length l0) (hc0 : l0.length ≤ c0) (h : b_times.f k l0 a1 a2 = some r) :
  Calls Tryz.prog 54 #[.slice A0 l0.length c0,.int .u32 a1,.int .u32 a2] w fun e w' => ∃ v0_ : Value,e = .returned (v0_) ∧ Kd.V (Kd.int .u32) 72 w' w.heap.size (fun k_ => (w.heap.size ≤ k_)) v0_ r ∧ Below w.heap.size w w' := by
 have HR0 := am hr0;have HC0 := am hc0;clear hr0 hc0;have HB := am (Below.refl w.heap.size w);have H := h;unfold b_times.f at H;clear h;obtain ⟨c4,H⟩ := iN H;have bM := eq_true c4;have bN : decide (0 ≤ wrap64 ((l0.length : Int) + 1)) = true := decide_eq_true c4;obtain ⟨c5,H⟩ := iN H;have bO := eq_true c5;have bP : decide ((wrap64 ((l0.length : Int) + 1) : Int).toNat ≤ 70368744177664) = true := decide_eq_true c5;obtain ⟨aW,aI⟩ : ∃ y_ : List Int,y_ = (List.replicate 0 0) := ⟨_,rfl⟩;replace H : (b_times.l0 k a1 aW (IntKind.u64.wrap (a2)) l0 (l0.length : Int) 0) = some r := pI aI H;have aV := am aI;clear aI;have H' := am H;clear H;go_enter Tryz.func54,Tryz.ntmps54;go_wp2_with (first | ((with_reducible refine zQp (N := 14) rfl ?_);refine zKA (Kd.int .u32) _ 72 rfl (N := 14) rfl 70 _ _ rfl 0 (wrap64 ((l0.length : Int) + 1)) rfl rfl Tryz.underlying70 (.int .u32 0) 4 zXV rfl (by decide) zO 0 (ok := fun _ => True) (okp := fun _ => True) rfl (fun _ hk => hk) trivial zO pD (Nat.le_trans (Nat.mul_le_mul_right _ (pD : (wrap64 ((l0.length : Int) + 1)).toNat ≤ 70368744177664)) zO) (Below.refl _ _) (Nat.le_refl _) ?_;intro bX w6 ho7 hb hg_ hnew_;clear hg_ hnew_;(first | rw [← aV.out] at ho7 | (simp only [Int.reduceToNat] at ho7;rw [← aV.out] at ho7));have bA := am (Kd.zQn (Kd.zXu (M := fun k_ => (w.heap.size ≤ k_)) ho7 (zQa pB) (fun k_ h_ => h_)) (zQa pB));replace HB := bS hb;clear hb ho7))
 go_loopg [7,8,19] k (fun kq v7 v8 v19 w' => ∃ (aD : List Int) (aC : Int) (aA : Int),v8 = .int .u64 aC ∧ v19 = .int .i64 aA ∧ Aside0 (b_times.l0 kq a1 aD aC l0 (l0.length : Int) aA = some r) ∧ Aside0 (kq ≤ k) ∧ Aside0 (Kd.R (Kd.int .u32) 72 w' w.heap.size (fun k_ => (w.heap.size ≤ k_)) v7 aD) ∧ Aside0 (Below w.heap.size w w'))
 case atStart => exact ⟨(aW),(IntKind.u64.wrap (a2)),(0),pS,pS,H',⟨Nat.le_refl _⟩,⟨by (with_reducible repeat (first | apply Kd.zQq | apply Kd.zQo | apply Kd.zQz));exact Kd.zQs bA.out (fun _ hk => hk.1)⟩,⟨pB⟩⟩
 case round =>
  clear H';(try clear c4 bM bN c5 bO bP);obtain ⟨aD,aC,aA,rfl,rfl,HA,bI,aJ,HB⟩ := hrel
  cases gk with
  | zero => exact absurd HA.out (by simp [b_times.l0])
  | succ k1 =>
   have H := HA.out;clear HA;simp only [b_times.l0] at H;rcases iT H with ⟨c8,H⟩ | ⟨c8,H⟩
   ·have bQ : decide (aA < (l0.length : Int)) = true := decide_eq_true c8;clear c8;obtain ⟨c9,H⟩ := iN H;have bY : decide (0 ≤ aA) = true := decide_eq_true c9;clear c9;obtain ⟨bJ,H⟩ := iN H;have bW : decide (aA < (l0.length : Int)) = true := decide_eq_true bJ;clear bJ;obtain ⟨bK,H⟩ := iN H;have bB := am bK;clear bK;obtain ⟨aX,aK⟩ : ∃ y_ : List Int,y_ = (aD ++ [(IntKind.u64.wrap (aC + (IntKind.u64.wrap ((IntKind.u64.wrap (rd l0 aA)) * (IntKind.u64.wrap (a1)))))) % 4294967296]) := ⟨_,rfl⟩;replace H : (b_times.l0 k1 a1 aX ((IntKind.u64.wrap (aC + (IntKind.u64.wrap ((IntKind.u64.wrap (rd l0 aA)) * (IntKind.u64.wrap (a1)))))) / 4294967296) l0 (l0.length : Int) (wrap64 (aA + 1))) = some r := pI aK H;have bC := am aK;clear aK;have H' := am H;clear H;have aQ : 0 ≤ (aA : Int) := pD;have aT : aA < (l0.length : Int) := pD;obtain ⟨ad137,e137,aH⟩ := Kd.zXh HR0.out aA aQ aT
    cases e137
    replace aH := (HB.out.cell (World.block_lt_of_cell? w _ aH)).trans aH;replace aQ := eq_true aQ;replace aT := eq_true aT;go_wp2_with (first | ((with_reducible refine zQB (b := .append) (xs := #[.tmp 30,.tmp 33]) rfl ?_);at_builtin;refine Kd.zQW (Kd.int .u32) (w0 := w) w.heap.size rfl (.tmp 30) (.tmp 33) 70 72 (.int .u32 0) 4 rfl Tryz.underlying70 zXV rfl (by decide) zO u7 aD ((IntKind.u64.wrap (aC + (IntKind.u64.wrap ((IntKind.u64.wrap (rd l0 aA)) * (IntKind.u64.wrap (a1)))))) % 4294967296) [.int .u32 ((IntKind.u64.wrap (aC + (IntKind.u64.wrap ((IntKind.u64.wrap (rd l0 aA)) * (IntKind.u64.wrap (a1)))))) % 4294967296)] (fun k_ => (w.heap.size ≤ k_)) (fun _ => False) rfl rfl ?aP (fun _ hk => hk.elim) ?aF ?aO ?aB ?aS ?aL ?_;(case aP => exact rfl);(case aB => exact pB);(case aF => exact (fun k_ hk => (Nat.le_trans (zQa pB) hk)));(case aO => exact (pR aJ.out));(case aS => exact (zQa pB));(case aL => have := bB.out;omega);intro bZ cO ho hb hg hat;rw [← bC.out] at ho;replace HB := am (hb);have bE := am (ho);clear aJ;clear ho hb hg hat))
    go_roundg k1
    case measure => have := bI.out;omega
    case rel => exact ⟨(aX),((IntKind.u64.wrap (aC + (IntKind.u64.wrap ((IntKind.u64.wrap (rd l0 aA)) * (IntKind.u64.wrap (a1)))))) / 4294967296),(wrap64 (aA + 1)),pS,pS,H',⟨by have := bI.out;omega⟩,⟨by exact pR bE.out⟩,⟨pB⟩⟩
   ·have bQ : decide (aA < (l0.length : Int)) = false := decide_eq_false c8;clear c8;obtain ⟨bL,H⟩ := iN H;have bF := am bL;clear bL;obtain ⟨aM,aN⟩ : ∃ y_ : List Int,y_ = (aD ++ [(aC) % 4294967296]) := ⟨_,rfl⟩;replace H : ((b_trim.f k1 aM).bind fun aU => (some aU)) = some r := pI aN H;have bG := am aN;clear aN;obtain ⟨aU,bV,H⟩ := oB H;obtain rfl := Option.some.inj H;go_wp2_with (first | ((with_reducible refine zQB (b := .append) (xs := #[.tmp 38,.tmp 41]) rfl ?_);at_builtin;refine Kd.zQW (Kd.int .u32) (w0 := w) w.heap.size rfl (.tmp 38) (.tmp 41) 70 72 (.int .u32 0) 4 rfl Tryz.underlying70 zXV rfl (by decide) zO u7 aD ((aC) % 4294967296) [.int .u32 ((aC) % 4294967296)] (fun k_ => (w.heap.size ≤ k_)) (fun _ => False) rfl rfl ?aP (fun _ hk => hk.elim) ?aF ?aO ?aB ?aS ?aL ?_;(case aP => exact rfl);(case aB => exact pB);(case aF => exact (fun k_ hk => (Nat.le_trans (zQa pB) hk)));(case aO => exact (pR aJ.out));(case aS => exact (zQa pB));(case aL => have := bF.out;omega);intro cB cZ ho hb hg hat;rw [← bG.out] at ho;replace HB := am (hb);have aG := am (ho);clear aJ;clear ho hb hg hat;obtain ⟨aY,aZ,bT⟩ := Kd.zQt aG.out;subst bT) | ((with_reducible refine zQb (f := 85) rfl ?_);refine zQg (some 43) rfl rfl Tryz.func85 (by kernel_rfl) rfl #[.slice aY aM.length aZ] rfl pM ?_;(with_reducible refine (b_trim.calls k1 (fun k_ => some k_ = (.slice aY aM.length aZ : Value).ownBlock) _ _ aM aU _ ?side1 bV.out).mono ?_);(case side1 => exact Kd.R_V (Kd.zXs rfl (aG.out)));rintro e dA ⟨cK,rfl,ho0,hb⟩;refine ⟨_,rfl,?_⟩;have bH := am (Kd.zQQ (Kd.zQj (ok' := fun k_ => (w.heap.size ≤ k_)) ho0 (fun k_ hk_ => Or.elim hk_ (fun hs_ => ((aG.out).1 k_ hs_.symm)) (fun hn_ => (Nat.le_trans (zQa pB) hn_)))) (zQa pB));replace aG := am (Kd.zQv (pR aG.out) hb);replace HB := bS hb;(try clear hb);(try clear ho0)))
    go_ret
    exact ⟨_,pE,by (with_reducible repeat (first | apply Kd.zQx | apply Kd.zQu | apply Kd.zQy));exact bH.out,pB⟩
def flo_shifted.f (a0 : Int) (a1 : Bool) (a2 : Int) : Option (Int) := if 0 ≤ a2 then (if a2 > 64 then (some 0) else (if 0 ≤ (wrap64 (a2 - 1)) then (if (Go.bits .and .u64 a0 (IntKind.u64.wrap ((shl .u64 1 a2) - 1))) > (shl .u64 1 (wrap64 (a2 - 1))) then (some (IntKind.u64.wrap ((shr .u64 a0 a2) + 1))) else (if (Go.bits .and .u64 a0 (IntKind.u64.wrap ((shl .u64 1 a2) - 1))) = (shl .u64 1 (wrap64 (a2 - 1))) then (if a1 = true then (some (IntKind.u64.wrap ((shr .u64 a0 a2) + 1))) else (if (Go.bits .and .u64 (shr .u64 a0 a2) 1) = 1 then (some (IntKind.u64.wrap ((shr .u64 a0 a2) + 1))) else (some (shr .u64 a0 a2)))) else (some (shr .u64 a0 a2)))) else (none))) else (none)
theorem flo_shifted.calls (a0 : Int) (a1 : Bool) (a2 : Int) (r : Int) (w : World) (h : flo_shifted.f a0 a1 a2 = some r) :
  Calls Tryz.prog 87 #[.int .u64 a0,.bool a1,.int .i64 a2] w fun e w' => e = .returned (.int .u64 r) ∧ Drawn0 w w' := by
 have H := h;unfold flo_shifted.f at H;clear h;obtain ⟨c4,H⟩ := iN H;have bF := eq_true c4;have bG : decide (0 ≤ a2) = true := decide_eq_true c4;clear c4;obtain ⟨aA,aH⟩ : ∃ j_ : Int,(shr .u64 a0 a2) = j_ := ⟨_,rfl⟩;(replace H : (if a2 > 64 then (some 0) else (if 0 ≤ (wrap64 (a2 - 1)) then (if (Go.bits .and .u64 a0 (IntKind.u64.wrap ((shl .u64 1 a2) - 1))) > (shl .u64 1 (wrap64 (a2 - 1))) then (some (IntKind.u64.wrap ((aA) + 1))) else (if (Go.bits .and .u64 a0 (IntKind.u64.wrap ((shl .u64 1 a2) - 1))) = (shl .u64 1 (wrap64 (a2 - 1))) then (if a1 = true then (some (IntKind.u64.wrap ((aA) + 1))) else (if (Go.bits .and .u64 (aA) 1) = 1 then (some (IntKind.u64.wrap ((aA) + 1))) else (some aA))) else (some aA))) else (none))) = some r := by first | (rw [aH] at H;exact H) | (simp only [aH] at H ⊢;exact H));have hji5_ : (a0 / 2 ^ min a2.toNat 64) = aA := aH;have hji5z : a2 ≤ 64 → (a0 / 2 ^ a2.toNat) = aA := zWQ aH;rcases iT H with ⟨c6,H⟩ | ⟨c6,H⟩
 ·have bA : decide (64 < a2) = true := decide_eq_true c6;clear c6;obtain rfl := Option.some.inj H;go_enter Tryz.func87,Tryz.ntmps87;go_wp2;repeat (go_quiet (fail);try go_wp2)
  go_ret
  exact ⟨by first | rfl | (simp;done) | (simp only [← aH] <;> (first | rfl | simp)) | (simp [*];done),pQ0⟩
 ·have bA : decide (64 < a2) = false := decide_eq_false c6;clear c6;have bH := eq_true (pD : 0 ≤ a2);obtain ⟨aD,aI⟩ : ∃ j_ : Int,(shl .u64 1 a2) = j_ := ⟨_,rfl⟩;(replace H : (if 0 ≤ (wrap64 (a2 - 1)) then (if (Go.bits .and .u64 a0 (IntKind.u64.wrap ((aD) - 1))) > (shl .u64 1 (wrap64 (a2 - 1))) then (some (IntKind.u64.wrap ((aA) + 1))) else (if (Go.bits .and .u64 a0 (IntKind.u64.wrap ((aD) - 1))) = (shl .u64 1 (wrap64 (a2 - 1))) then (if a1 = true then (some (IntKind.u64.wrap ((aA) + 1))) else (if (Go.bits .and .u64 (aA) 1) = 1 then (some (IntKind.u64.wrap ((aA) + 1))) else (some aA))) else (some aA))) else (none)) = some r := by first | (rw [aI] at H;exact H) | (simp only [aI] at H ⊢;exact H));have hji8_ : (IntKind.u64.wrap (1 * 2 ^ min a2.toNat 64)) = aD := aI;have hji8z : a2 ≤ 64 → (IntKind.u64.wrap (1 * 2 ^ a2.toNat)) = aD := zXU aI;(have hji8u : (IntKind.u64.wrap (2 ^ min a2.toNat 64)) = aD := by have h_ := hji8_;rw [Int.one_mul] at h_;exact h_);(have hji8v : a2 ≤ 64 → (IntKind.u64.wrap (2 ^ a2.toNat)) = aD := fun hle_ => by have h_ := hji8z hle_;rw [Int.one_mul] at h_;exact h_);obtain ⟨aJ,aK⟩ : ∃ j_ : Int,(wrap64 (a2 - 1)) = j_ := ⟨_,rfl⟩;(replace H : (if 0 ≤ (aJ) then (if (Go.bits .and .u64 a0 (IntKind.u64.wrap ((aD) - 1))) > (shl .u64 1 (aJ)) then (some (IntKind.u64.wrap ((aA) + 1))) else (if (Go.bits .and .u64 a0 (IntKind.u64.wrap ((aD) - 1))) = (shl .u64 1 (aJ)) then (if a1 = true then (some (IntKind.u64.wrap ((aA) + 1))) else (if (Go.bits .and .u64 (aA) 1) = 1 then (some (IntKind.u64.wrap ((aA) + 1))) else (some aA))) else (some aA))) else (none)) = some r := by first | (rw [aK] at H;exact H) | (simp only [aK] at H ⊢;exact H));have bB : (IntKind.i64.wrap (a2 - 1)) = aJ := (i64_w _).trans aK;obtain ⟨aU,H⟩ := iN H;have bC := eq_true aU;have bE : decide (0 ≤ (aJ)) = true := decide_eq_true aU;clear aU;obtain ⟨aC,aG⟩ : ∃ j_ : Int,(shl .u64 1 (aJ)) = j_ := ⟨_,rfl⟩;(replace H : (if (Go.bits .and .u64 a0 (IntKind.u64.wrap ((aD) - 1))) > (aC) then (some (IntKind.u64.wrap ((aA) + 1))) else (if (Go.bits .and .u64 a0 (IntKind.u64.wrap ((aD) - 1))) = (aC) then (if a1 = true then (some (IntKind.u64.wrap ((aA) + 1))) else (if (Go.bits .and .u64 (aA) 1) = 1 then (some (IntKind.u64.wrap ((aA) + 1))) else (some aA))) else (some aA))) = some r := by first | (rw [aG] at H;exact H) | (simp only [aG] at H ⊢;exact H));have hji11_ : (IntKind.u64.wrap (1 * 2 ^ min (aJ).toNat 64)) = aC := aG;have hji11z : (aJ) ≤ 64 → (IntKind.u64.wrap (1 * 2 ^ (aJ).toNat)) = aC := zXU aG;(have hji11u : (IntKind.u64.wrap (2 ^ min (aJ).toNat 64)) = aC := by have h_ := hji11_;rw [Int.one_mul] at h_;exact h_);(have hji11v : (aJ) ≤ 64 → (IntKind.u64.wrap (2 ^ (aJ).toNat)) = aC := fun hle_ => by have h_ := hji11z hle_;rw [Int.one_mul] at h_;exact h_);rcases iT H with ⟨aQ,H⟩ | ⟨aQ,H⟩
  ·have aV : decide ((aC) < (Go.bits .and .u64 a0 (IntKind.u64.wrap ((aD) - 1)))) = true := decide_eq_true aQ;clear aQ;obtain rfl := Option.some.inj H;go_enter Tryz.func87,Tryz.ntmps87;go_wp2;repeat (go_quiet (fail);try go_wp2)
   go_ret
   exact ⟨by first | rfl | (simp;done) | (simp only [← aH,← aI,← aK,← aG] <;> (first | rfl | simp)) | (simp [*];done),pQ0⟩
  ·have aV : decide ((aC) < (Go.bits .and .u64 a0 (IntKind.u64.wrap ((aD) - 1)))) = false := decide_eq_false aQ;clear aQ;rcases iT H with ⟨aM,H⟩ | ⟨aM,H⟩
   ·have aW : ((Go.bits .and .u64 a0 (IntKind.u64.wrap ((aD) - 1))) == (aC)) = true := beq_iff_eq.mpr aM;have aX : ((Go.bits .and .u64 a0 (IntKind.u64.wrap ((aD) - 1))) != (aC)) = false := bne_eq_false_iff_eq.mpr aM;clear aM;by_cases aT : a1 = true
    ·subst aT;rw [if_pos rfl] at H;obtain rfl := Option.some.inj H;go_enter Tryz.func87,Tryz.ntmps87;go_wp2;repeat (go_quiet (fail);try go_wp2)
     go_ret
     exact ⟨by first | rfl | (simp;done) | (simp only [← aH,← aI,← aK,← aG] <;> (first | rfl | simp)) | (simp [*];done),pQ0⟩
    ·replace aT := Bool.eq_false_iff.mpr aT;subst aT;rw [if_neg (show ¬ (false = true) by decide)] at H;rcases iT H with ⟨aN,H⟩ | ⟨aN,H⟩
     ·have aY : ((Go.bits .and .u64 (aA) 1) == 1) = true := beq_iff_eq.mpr aN;have aZ : ((Go.bits .and .u64 (aA) 1) != 1) = false := bne_eq_false_iff_eq.mpr aN;clear aN;obtain rfl := Option.some.inj H;go_enter Tryz.func87,Tryz.ntmps87;go_wp2;repeat (go_quiet (fail);try go_wp2)
      go_ret
      exact ⟨by first | rfl | (simp;done) | (simp only [← aH,← aI,← aK,← aG] <;> (first | rfl | simp)) | (simp [*];done),pQ0⟩
     ·have aY : ((Go.bits .and .u64 (aA) 1) == 1) = false := beq_eq_false_iff_ne.mpr aN;have aZ : ((Go.bits .and .u64 (aA) 1) != 1) = true := bne_iff_ne.mpr aN;obtain rfl := Option.some.inj H;go_enter Tryz.func87,Tryz.ntmps87;go_wp2;repeat (go_quiet (fail);try go_wp2)
      go_ret
      exact ⟨by first | rfl | (simp;done) | (simp only [← aH,← aI,← aK,← aG] <;> (first | rfl | simp)) | (simp [*];done),pQ0⟩
   ·have aW : ((Go.bits .and .u64 a0 (IntKind.u64.wrap ((aD) - 1))) == (aC)) = false := beq_eq_false_iff_ne.mpr aM;have aX : ((Go.bits .and .u64 a0 (IntKind.u64.wrap ((aD) - 1))) != (aC)) = true := bne_iff_ne.mpr aM;obtain rfl := Option.some.inj H;go_enter Tryz.func87,Tryz.ntmps87;go_wp2;repeat (go_quiet (fail);try go_wp2)
    go_ret
    exact ⟨by first | rfl | (simp;done) | (simp only [← aH,← aI,← aK,← aG] <;> (first | rfl | simp)) | (simp [*];done),pQ0⟩
mutual
def flo_Make.j0 : Nat → Int → Int → Bool → Int → Option (Int)
 | 0,_,_,_,_ => none
 | k + 1,x1,x2,x3,x9 => if x2 = 0 then (if x3 = true then (flo_Make.j1 k ((mn (mx x1 (-1048576)) 1048576) - 1) 1 false x9) else (some x9)) else (flo_Make.j1 k (mn (mx x1 (-1048576)) 1048576) x2 x3 x9)
def flo_Make.j1 : Nat → Int → Int → Bool → Int → Option (Int)
 | 0,_,_,_,_ => none
 | k + 1,x1,x2,x3,x9 => (bits_Len64.f x2).bind fun t147 => (if (mx (wrap64 ((wrap64 (t147 - 52)) - 1)) (wrap64 ((-1074) - x1))) > 0 then ((flo_shifted.f x2 x3 (mx (wrap64 ((wrap64 (t147 - 52)) - 1)) (wrap64 ((-1074) - x1)))).bind fun t148 => (flo_Make.j2 k x1 t148 x9 (mx (wrap64 ((wrap64 (t147 - 52)) - 1)) (wrap64 ((-1074) - x1))))) else (if (mx (wrap64 ((wrap64 (t147 - 52)) - 1)) (wrap64 ((-1074) - x1))) = 0 then (if x3 = true then (flo_Make.j2 k x1 (IntKind.u64.wrap (x2 + (Go.bits .and .u64 x2 1))) x9 (mx (wrap64 ((wrap64 (t147 - 52)) - 1)) (wrap64 ((-1074) - x1)))) else (flo_Make.j2 k x1 x2 x9 (mx (wrap64 ((wrap64 (t147 - 52)) - 1)) (wrap64 ((-1074) - x1))))) else (if 0 ≤ (wrap64 (-(mx (wrap64 ((wrap64 (t147 - 52)) - 1)) (wrap64 ((-1074) - x1))))) then (if x3 = true then (if 0 ≤ (wrap64 ((wrap64 (-(mx (wrap64 ((wrap64 (t147 - 52)) - 1)) (wrap64 ((-1074) - x1))))) - 1)) then (flo_Make.j2 k x1 (Go.bits .or .u64 (shl .u64 x2 (wrap64 (-(mx (wrap64 ((wrap64 (t147 - 52)) - 1)) (wrap64 ((-1074) - x1)))))) (shl .u64 1 (wrap64 ((wrap64 (-(mx (wrap64 ((wrap64 (t147 - 52)) - 1)) (wrap64 ((-1074) - x1))))) - 1)))) x9 (mx (wrap64 ((wrap64 (t147 - 52)) - 1)) (wrap64 ((-1074) - x1)))) else (none)) else (flo_Make.j2 k x1 (shl .u64 x2 (wrap64 (-(mx (wrap64 ((wrap64 (t147 - 52)) - 1)) (wrap64 ((-1074) - x1)))))) x9 (mx (wrap64 ((wrap64 (t147 - 52)) - 1)) (wrap64 ((-1074) - x1))))) else (none))))
def flo_Make.j2 : Nat → Int → Int → Int → Int → Option (Int)
 | 0,_,_,_,_ => none
 | k + 1,x1,x2,x9,x10 => if x2 = 9007199254740992 then (flo_Make.j3 k (wrap64 ((wrap64 (x1 + x10)) + 1)) 4503599627370496 x9) else (flo_Make.j3 k (wrap64 (x1 + x10)) x2 x9)
def flo_Make.j3 : Nat → Int → Int → Int → Option (Int)
 | 0,_,_,_ => none
 | k + 1,x1,x2,x9 => if x2 = 0 then (some x9) else (if x1 > 971 then (some (Go.bits .or .u64 x9 9218868437227405312)) else (if x2 < 4503599627370496 then (some (Go.bits .or .u64 x9 x2)) else (some (Go.bits .or .u64 (Go.bits .or .u64 x9 (IntKind.u64.wrap ((IntKind.u64.wrap (wrap64 (x1 + 1075))) * 4503599627370496))) (Go.bits .and .u64 x2 4503599627370495)))))
end
def flo_Make.f (k : Nat) (a0 : Bool) (a1 : Int) (a2 : Int) (a3 : Bool) : Option (Int) := if a0 = true then (flo_Make.j0 k a1 a2 a3 9223372036854775808) else (flo_Make.j0 k a1 a2 a3 0)
theorem flo_Make.mono_l : ∀ k,(∀ y0 y1 y2 y3,LeO (flo_Make.j0 k y0 y1 y2 y3) (flo_Make.j0 (k + 1) y0 y1 y2 y3)) ∧ (∀ y0 y1 y2 y3,LeO (flo_Make.j1 k y0 y1 y2 y3) (flo_Make.j1 (k + 1) y0 y1 y2 y3)) ∧ (∀ y0 y1 y2 y3,LeO (flo_Make.j2 k y0 y1 y2 y3) (flo_Make.j2 (k + 1) y0 y1 y2 y3)) ∧ (∀ y0 y1 y2,LeO (flo_Make.j3 k y0 y1 y2) (flo_Make.j3 (k + 1) y0 y1 y2))
 | 0 => ⟨fun _ _ _ _ r h => by simp [flo_Make.j0] at h,fun _ _ _ _ r h => by simp [flo_Make.j1] at h,fun _ _ _ _ r h => by simp [flo_Make.j2] at h,fun _ _ _ r h => by simp [flo_Make.j3] at h⟩
 | k + 1 => by
  obtain ⟨ih0,ih1,ih2,ih3⟩ := flo_Make.mono_l k;refine ⟨?_,?_,?_,?_⟩
  all_goals intros
  all_goals first | unfold flo_Make.j0 | unfold flo_Make.j1 | unfold flo_Make.j2 | unfold flo_Make.j3
  all_goals repeat' first | (with_reducible exact ih0 _ _ _ _) | (with_reducible exact ih1 _ _ _ _) | (with_reducible exact ih2 _ _ _ _) | (with_reducible exact ih3 _ _ _) | (with_reducible exact LeO.refl _) | (with_reducible exact LeO.none _) | (with_reducible refine LeO.ite ?_ ?_) | (with_reducible refine LeO.bind ?_ (fun _ => ?_))
theorem flo_Make.mono : ∀ a0 a1 a2 a3 k,LeO (flo_Make.f k a0 a1 a2 a3) (flo_Make.f (k + 1) a0 a1 a2 a3) := by
 intro a0 a1 a2 a3 k;obtain ⟨ih0,ih1,ih2,ih3⟩ := flo_Make.mono_l k;unfold flo_Make.f;repeat' first | (with_reducible exact ih0 _ _ _ _) | (with_reducible exact ih1 _ _ _ _) | (with_reducible exact ih2 _ _ _ _) | (with_reducible exact ih3 _ _ _) | (with_reducible exact LeO.refl _) | (with_reducible exact LeO.none _) | (with_reducible refine LeO.ite ?_ ?_) | (with_reducible refine LeO.bind ?_ (fun _ => ?_))
theorem flo_Make.calls (k : Nat) (a0 : Bool) (a1 : Int) (a2 : Int) (a3 : Bool) (r : Int) (w : World) (h : flo_Make.f k a0 a1 a2 a3 = some r) :
  Calls Tryz.prog 55 #[.bool a0,.int .i64 a1,.int .u64 a2,.bool a3] w fun e w' => e = .returned (.int .u64 r) ∧ Below w.heap.size w w' := by
 have HB := am (Below.refl w.heap.size w);have H : (if a0 = true then (flo_Make.j0 k a1 a2 a3 9223372036854775808) else (flo_Make.j0 k a1 a2 a3 0)) = some r := h;clear h;have HC5 := am H;clear H;go_enter Tryz.func55,Tryz.ntmps55
 go_upto_if 11 with (fail)
 go_cut [9] (fun v9 wc => ∃ (kq : Nat) (aC : Int),v9 = .int .u64 aC ∧ Aside0 (flo_Make.j0 kq a1 a2 a3 aC = some r) ∧ Aside0 (kq ≤ k) ∧ Aside0 (Below w.heap.size w wc))
 case first =>
  have H := HC5.out;clear HC5;by_cases c6 : a0 = true
  ·subst c6;rw [if_pos rfl] at H;have H' := am H;clear H;go_wp2;go_meet
   case rel => exact ⟨_,(9223372036854775808),pS,H',⟨by first | omega | exact Nat.le_refl _⟩,⟨pB⟩⟩
  ·replace c6 := Bool.eq_false_iff.mpr c6;subst c6;rw [if_neg (show ¬ (false = true) by decide)] at H;have H' := am H;clear H;go_wp2;go_meet
   case rel => exact ⟨_,(0),pS,H',⟨by first | omega | exact Nat.le_refl _⟩,⟨pB⟩⟩
 case rest =>
  clear HC5;obtain ⟨kq,aC,rfl,HA,aX,HB⟩ := hcut
  cases kq with
  | zero => exact absurd HA.out (by simp [flo_Make.j0])
  | succ bV =>
   have H := HA.out;clear HA;simp only [flo_Make.j0] at H;obtain ⟨bI,aU⟩ : ∃ j_ : Int,(mx a1 (-1048576)) = j_ := ⟨_,rfl⟩;(replace H : (if a2 = 0 then (if a3 = true then (flo_Make.j1 bV ((mn (bI) 1048576) - 1) 1 false aC) else (some aC)) else (flo_Make.j1 bV (mn (bI) 1048576) a2 a3 aC)) = some r := by first | (rw [aU] at H;exact H) | (simp only [aU] at H ⊢;exact H));have hji7_ : (if a1 < (-1048576) then (-1048576) else a1) = bI := aU;obtain ⟨bW,aQ⟩ : ∃ j_ : Int,(mn (bI) 1048576) = j_ := ⟨_,rfl⟩;(replace H : (if a2 = 0 then (if a3 = true then (flo_Make.j1 bV ((bW) - 1) 1 false aC) else (some aC)) else (flo_Make.j1 bV bW a2 a3 aC)) = some r := by first | (rw [aQ] at H;exact H) | (simp only [aQ] at H ⊢;exact H));have hji8_ : (if 1048576 < (bI) then 1048576 else (bI)) = bW := aQ;have HC9 := am H;clear H
   go_upto_if 16 with (fail)
   go_cut [1,2,3] (fun v1 v2 v3 wc => ∃ (kq : Nat) (aG : Int) (aD : Int) (aJ : Bool),v1 = .int .i64 aG ∧ v2 = .int .u64 aD ∧ v3 = .bool aJ ∧ Aside0 (flo_Make.j1 kq aG aD aJ aC = some r) ∧ Aside0 (kq ≤ bV) ∧ Aside0 (Below w.heap.size w wc))
   case first =>
    have H := HC9.out;clear HC9;rcases iT H with ⟨bJ,H⟩ | ⟨bJ,H⟩
    ·have aY : (a2 == 0) = true := beq_iff_eq.mpr bJ;have aZ : (a2 != 0) = false := bne_eq_false_iff_eq.mpr bJ;clear bJ;(first | rw [aY] | (simp only [i64_w,i32_w];rw [aY]) | rw [aZ] | (simp only [i64_w,i32_w];rw [aZ]) | skip);by_cases cB : a3 = true
     ·subst cB;rw [if_pos rfl] at H;have H' := am H;clear H;go_wp2;go_meet
      case rel => exact ⟨_,((bW) - 1),(1),(false),(by first | rfl | (simp;done) | (simp only [← aQ] <;> (first | rfl | simp)) | (simp [*];done)),pS,pS,H',⟨by have := aX.out;first | omega | exact Nat.le_refl _⟩,⟨pB⟩⟩
     ·replace cB := Bool.eq_false_iff.mpr cB;subst cB;rw [if_neg (show ¬ (false = true) by decide)] at H;obtain rfl := Option.some.inj H;go_wp2
      go_ret
      exact ⟨by first | rfl | (simp [errW_none,errW_some] <;> rfl) | (simp only [← aU,← aQ];first | rfl | (simp [errW_none,errW_some] <;> rfl)) | (simp [*,errW_none,errW_some] <;> rfl),pB⟩
    ·have aY : (a2 == 0) = false := beq_eq_false_iff_ne.mpr bJ;have aZ : (a2 != 0) = true := bne_iff_ne.mpr bJ;(first | rw [aY] | (simp only [i64_w,i32_w];rw [aY]) | rw [aZ] | (simp only [i64_w,i32_w];rw [aZ]) | skip);have H' := am H;clear H;go_wp2;go_meet
     case rel => exact ⟨_,(bW),(a2),(a3),(by first | rfl | (simp;done) | (simp only [← aQ] <;> (first | rfl | simp)) | (simp [*];done)),pS,pS,H',⟨by have := aX.out;first | omega | exact Nat.le_refl _⟩,⟨pB⟩⟩
   case rest =>
    clear HC9;obtain ⟨kq,aG,aD,aJ,rfl,rfl,rfl,HA,bH,HB⟩ := hcut
    cases kq with
    | zero => exact absurd HA.out (by simp [flo_Make.j1])
    | succ aT =>
     have H := HA.out;clear HA;simp only [flo_Make.j1] at H;obtain ⟨bN,dI,H⟩ := oB H;obtain ⟨aA,aI⟩ : ∃ j_ : Int,(mx (wrap64 ((wrap64 (bN - 52)) - 1)) (wrap64 ((-1074) - aG))) = j_ := ⟨_,rfl⟩;(replace H : (if (aA) > 0 then ((flo_shifted.f aD aJ (aA)).bind fun bO => (flo_Make.j2 aT aG bO aC aA)) else (if (aA) = 0 then (if aJ = true then (flo_Make.j2 aT aG (IntKind.u64.wrap (aD + (Go.bits .and .u64 aD 1))) aC aA) else (flo_Make.j2 aT aG aD aC aA)) else (if 0 ≤ (wrap64 (-(aA))) then (if aJ = true then (if 0 ≤ (wrap64 ((wrap64 (-(aA))) - 1)) then (flo_Make.j2 aT aG (Go.bits .or .u64 (shl .u64 aD (wrap64 (-(aA)))) (shl .u64 1 (wrap64 ((wrap64 (-(aA))) - 1)))) aC aA) else (none)) else (flo_Make.j2 aT aG (shl .u64 aD (wrap64 (-(aA)))) aC aA)) else (none)))) = some r := by first | (rw [aI] at H;exact H) | (simp only [aI] at H ⊢;exact H));(try rw [aI] at dI);have hji13_ : (if (wrap64 ((wrap64 (bN - 52)) - 1)) < (wrap64 ((-1074) - aG)) then (wrap64 ((-1074) - aG)) else (wrap64 ((wrap64 (bN - 52)) - 1))) = aA := aI;have HC14 := am H;clear H
     go_upto_block 0 with (first | ((with_reducible refine zQb (f := 86) rfl ?_);refine zQg (some 23) rfl rfl Tryz.func86 (by kernel_rfl) rfl #[.int .u64 aD] rfl pM ?_;(with_reducible refine (bits_Len64.calls aD bN _ dI.out).mono ?_);rintro e w' ⟨rfl,⟨nd,rfl⟩⟩;refine ⟨_,rfl,?_⟩))
     (try simp only [Act.put,List.setIfInBounds_toArray,List.set_cons_zero,List.set_cons_succ])
     go_cut [2] (fun v2 wc => ∃ (kq : Nat) (aN : Int),v2 = .int .u64 aN ∧ Aside0 (flo_Make.j2 kq aG aN aC aA = some r) ∧ Aside0 (kq ≤ aT) ∧ Aside0 (Below w.heap.size w wc))
     case first =>
      have H := HC14.out;clear HC14;rcases iT H with ⟨bX,H⟩ | ⟨bX,H⟩
      ·have bA : decide (0 < (aA)) = true := decide_eq_true bX;clear bX;(first | rw [bA] | (simp only [i64_w,i32_w];rw [bA]) | rw [bP] | (simp only [i64_w,i32_w];rw [bP]) | skip);obtain ⟨bO,dK,H⟩ := oB H;have H' := am H;clear H;(go_wp2_with (first | ((with_reducible refine zQb (f := 87) rfl ?_);refine zQg (some 46) rfl rfl Tryz.func87 (by kernel_rfl) rfl #[.int .u64 aD,.bool aJ,.int .i64 aA] rfl (by (try simp only [List.map_toArray,List.map_cons,List.map_nil]);first | done | (simp only [aI];rfl) | rfl | (simp only [List.length_drop,List.length_take];rfl)) ?_;(with_reducible refine (flo_shifted.calls aD aJ aA bO _ dK.out).mono ?_);rintro e w' ⟨rfl,⟨nd,rfl⟩⟩;refine ⟨_,rfl,?_⟩)));go_meet
       case rel => exact ⟨_,(bO),pS,H',⟨by have := aX.out;have := bH.out;first | omega | exact Nat.le_refl _⟩,⟨pB⟩⟩
      ·have bA : decide (0 < (aA)) = false := decide_eq_false bX;clear bX;(first | rw [bA] | (simp only [i64_w,i32_w];rw [bA]) | rw [bP] | (simp only [i64_w,i32_w];rw [bP]) | skip);rcases iT H with ⟨bK,H⟩ | ⟨bK,H⟩
       ·have dC : ((aA) == 0) = true := beq_iff_eq.mpr bK;have dD : ((aA) != 0) = false := bne_eq_false_iff_eq.mpr bK;clear bK;by_cases cK : aJ = true
        ·subst cK;rw [if_pos rfl] at H;have H' := am H;clear H;go_wp2;go_meet
         case rel => exact ⟨_,(IntKind.u64.wrap (aD + (Go.bits .and .u64 aD 1))),pS,H',⟨by have := aX.out;have := bH.out;first | omega | exact Nat.le_refl _⟩,⟨pB⟩⟩
        ·replace cK := Bool.eq_false_iff.mpr cK;subst cK;rw [if_neg (show ¬ (false = true) by decide)] at H;have H' := am H;clear H;go_wp2;go_meet
         case rel => exact ⟨_,(aD),pS,H',⟨by have := aX.out;have := bH.out;first | omega | exact Nat.le_refl _⟩,⟨pB⟩⟩
       ·have dC : ((aA) == 0) = false := beq_eq_false_iff_ne.mpr bK;have dD : ((aA) != 0) = true := bne_iff_ne.mpr bK;obtain ⟨aH,bQ⟩ : ∃ j_ : Int,(wrap64 (-(aA))) = j_ := ⟨_,rfl⟩;(replace H : (if 0 ≤ (aH) then (if aJ = true then (if 0 ≤ (wrap64 ((aH) - 1)) then (flo_Make.j2 aT aG (Go.bits .or .u64 (shl .u64 aD (aH)) (shl .u64 1 (wrap64 ((aH) - 1)))) aC aA) else (none)) else (flo_Make.j2 aT aG (shl .u64 aD (aH)) aC aA)) else (none)) = some r := by first | (rw [bQ] at H;exact H) | (simp only [bQ] at H ⊢;exact H));have dL : (IntKind.i64.wrap (-(aA))) = aH := (i64_w _).trans bQ;obtain ⟨cZ,H⟩ := iN H;have dN := eq_true cZ;have dO : decide (0 ≤ (aH)) = true := decide_eq_true cZ;clear cZ;obtain ⟨aV,aW⟩ : ∃ j_ : Int,(shl .u64 aD (aH)) = j_ := ⟨_,rfl⟩;(replace H : (if aJ = true then (if 0 ≤ (wrap64 ((aH) - 1)) then (flo_Make.j2 aT aG (Go.bits .or .u64 (aV) (shl .u64 1 (wrap64 ((aH) - 1)))) aC aA) else (none)) else (flo_Make.j2 aT aG aV aC aA)) = some r := by first | (rw [aW] at H;exact H) | (simp only [aW] at H ⊢;exact H));have hji21_ : (IntKind.u64.wrap (aD * 2 ^ min (aH).toNat 64)) = aV := aW;have hji21z : (aH) ≤ 64 → (IntKind.u64.wrap (aD * 2 ^ (aH).toNat)) = aV := zXU aW;by_cases cO : aJ = true
        ·subst cO;rw [if_pos rfl] at H;obtain ⟨aM,bT⟩ : ∃ j_ : Int,(wrap64 ((aH) - 1)) = j_ := ⟨_,rfl⟩;(replace H : (if 0 ≤ (aM) then (flo_Make.j2 aT aG (Go.bits .or .u64 (aV) (shl .u64 1 (aM))) aC aA) else (none)) = some r := by first | (rw [bT] at H;exact H) | (simp only [bT] at H ⊢;exact H));have dM : (IntKind.i64.wrap ((aH) - 1)) = aM := (i64_w _).trans bT;obtain ⟨dA,H⟩ := iN H;have dP := eq_true dA;have dQ : decide (0 ≤ (aM)) = true := decide_eq_true dA;clear dA;obtain ⟨bG,bB⟩ : ∃ j_ : Int,(shl .u64 1 (aM)) = j_ := ⟨_,rfl⟩;(replace H : (flo_Make.j2 aT aG (Go.bits .or .u64 (aV) (bG)) aC aA) = some r := by first | (rw [bB] at H;exact H) | (simp only [bB] at H ⊢;exact H));have hji25_ : (IntKind.u64.wrap (1 * 2 ^ min (aM).toNat 64)) = bG := bB;have hji25z : (aM) ≤ 64 → (IntKind.u64.wrap (1 * 2 ^ (aM).toNat)) = bG := zXU bB;(have hji25u : (IntKind.u64.wrap (2 ^ min (aM).toNat 64)) = bG := by have h_ := hji25_;rw [Int.one_mul] at h_;exact h_);(have hji25v : (aM) ≤ 64 → (IntKind.u64.wrap (2 ^ (aM).toNat)) = bG := fun hle_ => by have h_ := hji25z hle_;rw [Int.one_mul] at h_;exact h_);have H' := am H;clear H;go_wp2;go_meet
         case rel => exact ⟨_,(Go.bits .or .u64 (aV) (bG)),(by first | rfl | (simp;done) | (simp only [← aW,← bB] <;> (first | rfl | simp)) | (simp [*];done)),H',⟨by have := aX.out;have := bH.out;first | omega | exact Nat.le_refl _⟩,⟨pB⟩⟩
        ·replace cO := Bool.eq_false_iff.mpr cO;subst cO;rw [if_neg (show ¬ (false = true) by decide)] at H;have H' := am H;clear H;go_wp2;go_meet
         case rel => exact ⟨_,(aV),(by first | rfl | (simp;done) | (simp only [← aW] <;> (first | rfl | simp)) | (simp [*];done)),H',⟨by have := aX.out;have := bH.out;first | omega | exact Nat.le_refl _⟩,⟨pB⟩⟩
     case rest =>
      clear HC14;obtain ⟨kq,aN,rfl,HA,dB,HB⟩ := hcut
      cases kq with
      | zero => exact absurd HA.out (by simp [flo_Make.j2])
      | succ dJ =>
       have H := HA.out;clear HA;simp only [flo_Make.j2] at H;have HC26 := am H;clear H
       go_upto_if 59 with (fail)
       go_cut [1,2] (fun v1 v2 wc => ∃ (kq : Nat) (bC : Int) (aK : Int),v1 = .int .i64 bC ∧ v2 = .int .u64 aK ∧ Aside0 (flo_Make.j3 kq bC aK aC = some r) ∧ Aside0 (kq ≤ dJ) ∧ Aside0 (Below w.heap.size w wc))
       case first =>
        have H := HC26.out;clear HC26;rcases iT H with ⟨bL,H⟩ | ⟨bL,H⟩
        ·have bE : (aN == 9007199254740992) = true := beq_iff_eq.mpr bL;have bF : (aN != 9007199254740992) = false := bne_eq_false_iff_eq.mpr bL;clear bL;(first | rw [bE] | (simp only [i64_w,i32_w];rw [bE]) | rw [bF] | (simp only [i64_w,i32_w];rw [bF]) | skip);have H' := am H;clear H;go_wp2;go_meet
         case rel => exact ⟨_,(wrap64 ((wrap64 (aG + aA)) + 1)),(4503599627370496),(by first | rfl | (simp;done) | (simp only [← aI] <;> (first | rfl | simp)) | (simp [*];done)),pS,H',⟨by have := aX.out;have := bH.out;have := dB.out;first | omega | exact Nat.le_refl _⟩,⟨pB⟩⟩
        ·have bE : (aN == 9007199254740992) = false := beq_eq_false_iff_ne.mpr bL;have bF : (aN != 9007199254740992) = true := bne_iff_ne.mpr bL;(first | rw [bE] | (simp only [i64_w,i32_w];rw [bE]) | rw [bF] | (simp only [i64_w,i32_w];rw [bF]) | skip);have H' := am H;clear H;go_wp2;go_meet
         case rel => exact ⟨_,(wrap64 (aG + aA)),(aN),(by first | rfl | (simp;done) | (simp only [← aI] <;> (first | rfl | simp)) | (simp [*];done)),pS,H',⟨by have := aX.out;have := bH.out;have := dB.out;first | omega | exact Nat.le_refl _⟩,⟨pB⟩⟩
       case rest =>
        clear HC26;obtain ⟨kq,bC,aK,rfl,rfl,HA,dR,HB⟩ := hcut
        cases kq with
        | zero => exact absurd HA.out (by simp [flo_Make.j3])
        | succ dS =>
         have H := HA.out;clear HA;simp only [flo_Make.j3] at H;rcases iT H with ⟨bM,H⟩ | ⟨bM,H⟩
         ·have dE : (aK == 0) = true := beq_iff_eq.mpr bM;have dF : (aK != 0) = false := bne_eq_false_iff_eq.mpr bM;clear bM;obtain rfl := Option.some.inj H;go_wp2
          go_ret
          exact ⟨by first | rfl | (simp [errW_none,errW_some] <;> rfl) | (simp only [← aU,← aQ,← aI];first | rfl | (simp [errW_none,errW_some] <;> rfl)) | (simp [*,errW_none,errW_some] <;> rfl),pB⟩
         ·have dE : (aK == 0) = false := beq_eq_false_iff_ne.mpr bM;have dF : (aK != 0) = true := bne_iff_ne.mpr bM;rcases iT H with ⟨bY,H⟩ | ⟨bY,H⟩
          ·have dG : decide (971 < bC) = true := decide_eq_true bY;clear bY;obtain rfl := Option.some.inj H;go_wp2
           go_ret
           exact ⟨by first | rfl | (simp [errW_none,errW_some] <;> rfl) | (simp only [← aU,← aQ,← aI];first | rfl | (simp [errW_none,errW_some] <;> rfl)) | (simp [*,errW_none,errW_some] <;> rfl),pB⟩
          ·have dG : decide (971 < bC) = false := decide_eq_false bY;clear bY;rcases iT H with ⟨bZ,H⟩ | ⟨bZ,H⟩
           ·have dH : decide (aK < 4503599627370496) = true := decide_eq_true bZ;clear bZ;obtain rfl := Option.some.inj H;go_wp2
            go_ret
            exact ⟨by first | rfl | (simp [errW_none,errW_some] <;> rfl) | (simp only [← aU,← aQ,← aI];first | rfl | (simp [errW_none,errW_some] <;> rfl)) | (simp [*,errW_none,errW_some] <;> rfl),pB⟩
           ·have dH : decide (aK < 4503599627370496) = false := decide_eq_false bZ;clear bZ;obtain rfl := Option.some.inj H;go_wp2
            go_ret
            exact ⟨by first | rfl | (simp [errW_none,errW_some] <;> rfl) | (simp only [← aU,← aQ,← aI];first | rfl | (simp [errW_none,errW_some] <;> rfl)) | (simp [*,errW_none,errW_some] <;> rfl),pB⟩
end Go.Proofs.YtongfmeediokmaaGreatDoor.Pr
end
