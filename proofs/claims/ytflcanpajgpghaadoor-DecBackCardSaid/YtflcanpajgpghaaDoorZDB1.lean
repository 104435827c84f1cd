/- A part of the proof of the law that RowDecBack shows: lemmas, and contracts of the calls that it reaches. -/
import Derived.Test.YtflcanpajgpghaaDoorProg
import Derived.Below
import Derived.Deep.Draws
import Derived.Deep.AppendLies
import Derived.Maps.AppendAt
import Derived.OwnWalk
import Derived.Laws.BytesArg
import Derived.Laws.MakeOwn
import Derived.Laws.OwnMore
import Derived.Deep.OwnRows
import Derived.Tactics
import Derived.Lib.ConvBytes
import Derived.Laws.Slices
import Derived.WalkKit
import Derived.KernelRfl
import Derived.RowKit3
import Derived.Deep.LoopGhost
import Derived.Deep.QuietTactic
import Derived.BigQuiet
import Derived.WideLaws
import Derived.Deep.DeepCutAuto
import Derived.Deep.CutBlock
import Derived.Deep.RegionHeld3
import Derived.Laws.Rows
import Derived.Lib.AppendStr
import Derived.ArgAppend
import Derived.Laws.IdiomCopy
import Derived.OrdersHeld
import Derived.Laws.BitsLemmas
import Derived.RowKit
import Derived.Test.YtflcanpajgpghaaDoorZDB0
import Derived.WalkLawsBesides
import Derived.Lib.SliceRun
import Derived.Laws.Externs
import Derived.Shelf.Lay
import Derived.Shelf.Strconv.Itoa0
import Derived.Shelf.Small.Bits
import Derived.Shelf.LaysM
import Derived.Shelf.Strconv.Itoa3
import Derived.Shelf.Strings.Repeat
import Derived.Shelf.Strings.Trim
set_option linter.unusedVariables false
set_option linter.unusedSimpArgs false
section
namespace Go.Proofs.YtflcanpajgpghaaDoor.Pr
open Go.RowKit Go.Proofs.YtflcanpajgpghaaDoorW.PrintWords Go.Proofs.YtflcanpajgpghaaDoorW.PrintLast Go.Proofs.YtflcanpajgpghaaDoorW.PrintMore
attribute [local go_sem] max2_int min2_int max_two min_two max_three min_three max_four min_four
def errW : Option Int → Value
  | none => .nilIface
  | some c => .iface 0 (.int .i64 c)
theorem errW_none : errW none = .nilIface := rfl
theorem errW_some (c : Int) : errW (some c) = .iface 0 (.int .i64 c) := rfl
theorem info5 : (Tryd.prog.info? 5).map (fun i => (i.zero, i.size, i.bytes)) = some (some (.int .u8 0), 1, 1) := by kernel_rfl
theorem info74 : (Tryd.prog.info? 74).map (fun i => (i.zero, i.size, i.bytes)) = some (some (.int .u32 0), 1, 4) := by kernel_rfl
def rd_L1 (xs : List (List Int)) (i : Int) : (List Int) := xs.getD i.toNat ([] : List Int)
def rd_L6 (xs : List (List (List Int))) (i : Int) : (List (List Int)) := xs.getD i.toNat ([] : List (List Int))
end Go.Proofs.YtflcanpajgpghaaDoor.Pr
end
section
namespace Go.Proofs.YtflcanpajgpghaaDoor.Flo
open Go Ieee
def rung (a : Nat) : Nat := a % 9223372036854775808
def nanB (a : Nat) : Bool := decide (9218868437227405312 < rung a)
def infB (a : Nat) : Bool := decide (rung a = 9218868437227405312)
theorem read_eq (a : Nat) : double.read a = if rung a < 4503599627370496 then .number (a / 9223372036854775808 % 2 == 1) (rung a) (-1074) else if rung a < 9218868437227405312 then .number (a / 9223372036854775808 % 2 == 1) (4503599627370496 + rung a % 4503599627370496) (-1074 + ((rung a / 4503599627370496 - 1 : Nat) : Int)) else if rung a = 9218868437227405312 then .infinity (a / 9223372036854775808 % 2 == 1) else .nan (a / 9223372036854775808 % 2 == 1) (rung a - 9218868437227405312) := rfl
theorem read_nan {a : Nat} (h : nanB a = true) : double.read a = .nan (a / 9223372036854775808 % 2 == 1) (rung a - 9218868437227405312) := by
 have h := of_decide_eq_true h
 rw [read_eq, if_neg (by omega), if_neg (by omega), if_neg (by omega)]
theorem read_inf {a : Nat} (h : infB a = true) : double.read a = .infinity (a / 9223372036854775808 % 2 == 1) := by
 have h := of_decide_eq_true h
 rw [read_eq, if_neg (by omega), if_neg (by omega), if_pos h]
def units (r : Nat) : Nat := if r < 4503599627370496 then r else (4503599627370496 + r % 4503599627370496) * 2 ^ (r / 4503599627370496 - 1)
theorem read_fin {a : Nat} (h1 : nanB a = false) (h2 : infB a = false) : ∃ (m k : Nat), double.read a = .number (a / 9223372036854775808 % 2 == 1) m (-1074 + (k : Int)) ∧ m * 2 ^ k = units (rung a) := by
 have h1 := of_decide_eq_false h1
 have h2 := of_decide_eq_false h2
 rw [read_eq]
 unfold units
 by_cases h : rung a < 4503599627370496
 ·rw [if_pos h, if_pos h]
  exact ⟨_, 0, rfl, by simp⟩
 ·rw [if_neg h, if_neg h, if_pos (by omega)]
  exact ⟨_, _, rfl, rfl⟩
theorem units_mono {r s : Nat} (h : r < s) : units r < units s := by
 unfold units
 by_cases hs : s < 4503599627370496
 ·rw [if_pos hs, if_pos (by omega)]; exact h
 ·rw [if_neg hs]
  by_cases hr : r < 4503599627370496
  ·rw [if_pos hr]
   have : 1 ≤ 2 ^ (s / 4503599627370496 - 1) := Nat.one_le_two_pow
   have h2 : (4503599627370496 + s % 4503599627370496) * 1 ≤ (4503599627370496 + s % 4503599627370496) * 2 ^ (s / 4503599627370496 - 1) := Nat.mul_le_mul_left _ this
   omega
  ·rw [if_neg hr]
   by_cases he : r / 4503599627370496 = s / 4503599627370496
   ·rw [he]
    exact Nat.mul_lt_mul_of_pos_right (by omega) (Nat.two_pow_pos _)
   ·have hlt : r / 4503599627370496 - 1 + 1 ≤ s / 4503599627370496 - 1 := by omega
    have h1 : (4503599627370496 + r % 4503599627370496) * 2 ^ (r / 4503599627370496 - 1) < 9007199254740992 * 2 ^ (r / 4503599627370496 - 1) := Nat.mul_lt_mul_of_pos_right (by omega) (Nat.two_pow_pos _)
    have h2 : 9007199254740992 * 2 ^ (r / 4503599627370496 - 1) = 4503599627370496 * 2 ^ (r / 4503599627370496 - 1 + 1) := by rw [Nat.pow_succ]; omega
    have h3 : 4503599627370496 * 2 ^ (r / 4503599627370496 - 1 + 1) ≤ 4503599627370496 * 2 ^ (s / 4503599627370496 - 1) := Nat.mul_le_mul_left _ (Nat.pow_le_pow_right (by omega) hlt)
    have h4 : 4503599627370496 * 2 ^ (s / 4503599627370496 - 1) ≤ (4503599627370496 + s % 4503599627370496) * 2 ^ (s / 4503599627370496 - 1) := Nat.mul_le_mul_right _ (by omega)
    omega
theorem units_inj {r s : Nat} (h : units r = units s) : r = s := by
 rcases Nat.lt_trichotomy r s with h1 | h1 | h1
 ·have := units_mono h1; omega
 ·exact h1
 ·have := units_mono h1; omega
theorem units_zero {r : Nat} (h : units r = 0) : r = 0 := units_inj (h.trans (by rfl))
theorem signed_scale (s : Bool) (m k j : Nat) : signed s m k * (2 : Int) ^ j = signed s (m * 2 ^ k) j := by
 unfold signed
 simp only [Nat.shiftLeft_eq]
 cases s
 ·simp only [Bool.false_eq_true, if_false]
  push_cast
  rfl
 ·simp only [if_true]
  push_cast
  rw [Int.neg_mul]
theorem cmp_scale (x y c : Int) (hc : 0 < c) : compare (x * c) (y * c) = compare x y := by
 have h1 : x * c < y * c ↔ x < y := Int.mul_lt_mul_right hc
 have h2 : x * c = y * c ↔ x = y := ⟨fun h => Int.eq_of_mul_eq_mul_right (by omega) h, fun h => by rw [h]⟩
 simp only [compare, compareOfLessAndEq, h1, h2]
def negB (a : Nat) : Bool := a / 9223372036854775808 % 2 == 1
def sv (a : Nat) : Int := if negB a = true then -(units (rung a) : Int) else (units (rung a) : Int)
theorem signed_zero (s : Bool) (m : Nat) : signed s m 0 = if s = true then -(m : Int) else (m : Int) := by
 unfold signed
 simp only [Nat.shiftLeft_zero]
theorem order_fin {a b : Nat} (ha : nanB a = false) (ha2 : infB a = false) (hb : nanB b = false) (hb2 : infB b = false) : double.order a b = some (compare (sv a) (sv b)) := by
 obtain ⟨m, k, hr, hm⟩ := read_fin ha ha2
 obtain ⟨n, l, hs, hn⟩ := read_fin hb hb2
 unfold Format.order
 rw [hr, hs]
 show some (compare (signed (negB a) m ((-1074 + (k : Int)) - min (-1074 + (k : Int)) (-1074 + (l : Int))).toNat) (signed (negB b) n ((-1074 + (l : Int)) - min (-1074 + (k : Int)) (-1074 + (l : Int))).toNat)) = _
 obtain ⟨c, hc⟩ : ∃ c, c = min k l := ⟨_, rfl⟩
 have e1 : ((-1074 + (k : Int)) - min (-1074 + (k : Int)) (-1074 + (l : Int))).toNat = k - c := by omega
 have e2 : ((-1074 + (l : Int)) - min (-1074 + (k : Int)) (-1074 + (l : Int))).toNat = l - c := by omega
 rw [e1, e2]
 have full : ∀ (s : Bool) (m k : Nat), c ≤ k → signed s m (k - c) * (2 : Int) ^ c = signed s (m * 2 ^ k) 0 := fun s m k h => by
  have h1 := signed_scale s m (k - c) c
  have h2 := signed_scale s m (k - c + c) 0
  have h3 : signed s (m * 2 ^ (k - c)) c = signed s (m * 2 ^ k) 0 := by
   unfold signed
   simp only [Nat.shiftLeft_eq, Nat.pow_zero, Nat.mul_one, Nat.mul_assoc, ← Nat.pow_add, Nat.sub_add_cancel h]
  rw [h1, h3]
 have hpos : (0 : Int) < 2 ^ c := Int.pow_pos (by omega)
 rw [← cmp_scale _ _ _ hpos, full _ m k (by omega), full _ n l (by omega), hm, hn, signed_zero, signed_zero]
 rfl
theorem order_nan {a b : Nat} (h : nanB a = true ∨ nanB b = true) : double.order a b = none := by
 unfold Format.order
 rcases h with h | h
 ·rw [read_nan h]; rfl
 ·rw [read_nan h]
  cases double.read a <;> rfl
def eqB (a b : Nat) : Bool := !nanB a && !nanB b && (decide (a = b) || (decide (rung a = 0) && decide (rung b = 0)))
theorem word_of {a b : Nat} (ha : a < 18446744073709551616) (hb : b < 18446744073709551616) (hr : rung a = rung b) (hn : negB a = negB b) : a = b := by
 unfold rung at hr
 unfold negB at hn
 have h1 : (a / 9223372036854775808 % 2 = 1) ↔ (b / 9223372036854775808 % 2 = 1) := by
  constructor
  ·intro h
   have := beq_iff_eq.2 h
   rw [hn] at this
   exact beq_iff_eq.1 this
  ·intro h
   have := beq_iff_eq.2 h
   rw [← hn] at this
   exact beq_iff_eq.1 this
 omega
theorem order_eq {a b : Nat} (ha : a < 18446744073709551616) (hb : b < 18446744073709551616) : (double.order a b == some .eq) = eqB a b := by
 unfold eqB
 cases h1 : nanB a with
 | true => rw [order_nan (.inl h1)]; rfl
 | false =>
  cases h2 : nanB b with
  | true => rw [order_nan (.inr h2)]; rfl
  | false =>
   simp only [Bool.not_false, Bool.true_and]
   cases h3 : infB a with
   | true =>
    have e3 := of_decide_eq_true h3
    cases h4 : infB b with
    | true =>
     have e4 := of_decide_eq_true h4
     unfold Format.order
     rw [read_inf h3, read_inf h4]
     show ((some (compare (negB b).toNat (negB a).toNat) : Option Ordering) == some .eq) = _
     have hz : decide (rung a = 0) = false := decide_eq_false (by omega)
     rw [hz, Bool.false_and, Bool.or_false]
     by_cases he : a = b
     ·subst he
      rw [decide_eq_true rfl]
      cases negB a <;> rfl
     ·rw [decide_eq_false he]
      have : negB a ≠ negB b := fun h => he (word_of ha hb (by omega) h)
      revert this
      cases negB a <;> cases negB b <;> simp <;> decide
    | false =>
     obtain ⟨n, l, hs, hn⟩ := read_fin h2 h4
     have e4 := of_decide_eq_false h4
     unfold Format.order
     rw [read_inf h3, hs]
     have hz : decide (rung a = 0) = false := decide_eq_false (by omega)
     have he : decide (a = b) = false := decide_eq_false (fun h => by subst h; rw [h3] at h4; cases h4)
     rw [hz, he]
     show ((some (if (negB a) = true then Ordering.lt else Ordering.gt) : Option Ordering) == some .eq) = false
     cases negB a <;> rfl
   | false =>
    have e3 := of_decide_eq_false h3
    cases h4 : infB b with
    | true =>
     have e4 := of_decide_eq_true h4
     obtain ⟨n, l, hs, hn⟩ := read_fin h1 h3
     unfold Format.order
     rw [read_inf h4, hs]
     have hz : decide (rung b = 0) = false := decide_eq_false (by omega)
     have he : decide (a = b) = false := decide_eq_false (fun h => by subst h; rw [h3] at h4; cases h4)
     rw [hz, he, Bool.and_false]
     show ((some (if (negB b) = true then Ordering.gt else Ordering.lt) : Option Ordering) == some .eq) = false
     cases negB b <;> rfl
    | false =>
     rw [order_fin h1 h3 h2 h4]
     have key : sv a = sv b ↔ a = b ∨ (rung a = 0 ∧ rung b = 0) := by
      unfold sv
      constructor
      ·intro h
       by_cases hz : rung a = 0
       ·have hu : units (rung a) = 0 := by rw [hz]; rfl
        have hub : units (rung b) = 0 := by
         split at h <;> split at h <;> omega
        exact .inr ⟨hz, units_zero hub⟩
       ·have hua : units (rung a) ≠ 0 := fun h => hz (units_zero h)
        left
        have hn : negB a = negB b := by
         cases ea : negB a <;> cases eb : negB b <;> simp only [ea, eb, Bool.false_eq_true, if_false, if_true] at h <;> first | rfl | omega
        rw [hn] at h
        have hu : units (rung a) = units (rung b) := by split at h <;> omega
        exact word_of ha hb (units_inj hu) hn
      ·rintro (h | ⟨h, h'⟩)
       ·rw [h]
       ·rw [h, h']
        have : units 0 = 0 := rfl
        rw [this]
        split <;> split <;> rfl
     have hc : ((some (compare (sv a) (sv b)) : Option Ordering) == some .eq) = decide (sv a = sv b) := by
      simp only [compare, compareOfLessAndEq]
      by_cases hlt : sv a < sv b
      ·rw [if_pos hlt, decide_eq_false (by omega)]; rfl
      ·rw [if_neg hlt]
       by_cases he : sv a = sv b
       ·rw [if_pos he, decide_eq_true he]; rfl
       ·rw [if_neg he, decide_eq_false he]; rfl
     rw [hc]
     by_cases h : sv a = sv b
     ·rw [decide_eq_true h]
      rcases key.1 h with h5 | ⟨h5, h6⟩
      ·rw [decide_eq_true h5]; rfl
      ·rw [decide_eq_true h5, decide_eq_true h6]; simp
     ·rw [decide_eq_false h]
      have h7 : ¬ (a = b ∨ (rung a = 0 ∧ rung b = 0)) := fun g => h (key.2 g)
      rw [decide_eq_false (fun g => h7 (.inl g))]
      by_cases h5 : rung a = 0
      ·rw [decide_eq_false (fun g => h7 (.inr ⟨h5, g⟩))]; simp
      ·rw [decide_eq_false h5]; rfl
theorem order_self {a : Nat} (ha : a < 18446744073709551616) : (double.order a a != some .eq) = nanB a := by
 have := order_eq ha ha
 rw [bne, this]
 unfold eqB
 rw [decide_eq_true rfl]
 cases nanB a <;> rfl
theorem order_nought {a : Nat} (ha : a < 18446744073709551616) : (double.order a 0 == some .eq) = decide (rung a = 0) := by
 rw [order_eq ha (by omega)]
 unfold eqB
 have h0 : nanB 0 = false := by decide
 have h1 : decide (rung 0 = 0) = true := by decide
 rw [h0, h1, Bool.and_true]
 by_cases h : rung a = 0
 ·have : nanB a = false := by unfold nanB; exact decide_eq_false (by omega)
  rw [this, decide_eq_true h]; simp
 ·have : decide (a = 0) = false := decide_eq_false (fun e => h (by rw [e]; rfl))
  rw [this, decide_eq_false h]; simp
theorem sub_self {a : Nat} (h1 : nanB a = false) (h2 : infB a = false) : double.sub a a = some 0 := by
 obtain ⟨m, k, hr, hm⟩ := read_fin h1 h2
 unfold Format.sub
 rw [hr]
 show some (double.write _) = some 0
 have hb : ((-1074 + (k : Int)) - min (-1074 + (k : Int)) (-1074 + (k : Int))).toNat = 0 := by omega
 congr 1
 show double.write (.number (if signed (negB a) m ((-1074 + (k : Int)) - min (-1074 + (k : Int)) (-1074 + (k : Int))).toNat + signed (!negB a) m ((-1074 + (k : Int)) - min (-1074 + (k : Int)) (-1074 + (k : Int))).toNat = 0 then (negB a && !negB a) else decide (signed (negB a) m ((-1074 + (k : Int)) - min (-1074 + (k : Int)) (-1074 + (k : Int))).toNat + signed (!negB a) m ((-1074 + (k : Int)) - min (-1074 + (k : Int)) (-1074 + (k : Int))).toNat < 0)) (signed (negB a) m ((-1074 + (k : Int)) - min (-1074 + (k : Int)) (-1074 + (k : Int))).toNat + signed (!negB a) m ((-1074 + (k : Int)) - min (-1074 + (k : Int)) (-1074 + (k : Int))).toNat).natAbs (min (-1074 + (k : Int)) (-1074 + (k : Int)))) = 0
 rw [hb]
 have hz : signed (negB a) m 0 + signed (!negB a) m 0 = 0 := by
  rw [signed_zero, signed_zero]
  cases negB a <;> simp <;> omega
 rw [hz, if_pos rfl]
 have : (negB a && !negB a) = false := by cases negB a <;> rfl
 rw [this]
 unfold Format.write Format.nearest
 simp [Format.word]
theorem sub_inf {a : Nat} (h2 : infB a = true) : double.sub a a = none := by
 unfold Format.sub
 rw [read_inf h2]
 show Option.map double.write (if negB a = (!negB a) then _ else none) = none
 rw [if_neg (by cases negB a <;> simp)]
 rfl
end Go.Proofs.YtflcanpajgpghaaDoor.Flo
end
section
namespace Go.Proofs.YtflcanpajgpghaaDoor.Pr
open Go.RowKit Go.Proofs.YtflcanpajgpghaaDoorW.PrintWords Go.Proofs.YtflcanpajgpghaaDoor.Flo
def kindV (a : Nat) : Int := if nanB a = true then 4 else if rung a = 0 then 0 else if infB a = true then 3 else if rung a < 4503599627370496 then 1 else 2
def flo_kind.f (a : Int) : Option Int := if 0 ≤ a ∧ a < 18446744073709551616 then some (kindV a.toNat) else none
theorem ext_bits (n : Int) (w : World) : (callFunc 55 #[.int .u64 n]).run Tryd.prog w = .ok (.value (.float .f64 n.toNat)) w := by
 rw [run_callFunc_extern Tryd.func55 (by kernel_rfl) (by kernel_rfl) (by kernel_rfl) (e := Extern.MathFloatBits.float64frombits) (by kernel_rfl)]
 rfl
theorem run_sub_inf {P : Program} (t : TypeId) {x : Nat} (h : infB x = true) (w : World) : ∃ b, (FloatKind.f64.format.order b 0 != some Ordering.eq) = true ∧ (binOp .sub t (.float .f64 x) (.float .f64 x)).run P w = .ok (.float .f64 b) w.drew := by
 have hs : FloatKind.f64.format.sub x x = none := sub_inf h
 refine ⟨Question.cut (.nanBits .f64 x x) (w.tape w.drawn (.nanBits .f64 x x)), ?_, ?_⟩
 ·generalize w.tape w.drawn (.nanBits .f64 x x) = t
  have hn : nanB (Question.cut (.nanBits .f64 x x) t) = true := by
   show decide (9218868437227405312 < rung ((t % 2) * 2 ^ 63 + 0x7ff0000000000000 + 1 + (t / 2) % (2 ^ 52 - 1))) = true
   refine decide_eq_true ?_
   unfold rung
   have hu : t / 2 % (2 ^ 52 - 1) < 4503599627370495 := Nat.mod_lt _ (by decide)
   generalize t / 2 % (2 ^ 52 - 1) = u at hu
   rcases (show t % 2 = 0 ∨ t % 2 = 1 by omega) with e | e
   ·rw [e]; omega
   ·rw [e]; omega
  have ho : Ieee.double.order (Question.cut (.nanBits .f64 x x) t) 0 = none := order_nan (.inl hn)
  show (Ieee.double.order (Question.cut (.nanBits .f64 x x) t) 0 != some Ordering.eq) = true
  rw [ho]
  rfl
 ·simp [binOp, Op.floatArith, hs, choose, Sem.run, Question.forced]
  try rfl
theorem run_sub_fin {P : Program} (t : TypeId) {x : Nat} (h : nanB x = false) (h2 : infB x = false) (w : World) : (binOp .sub t (.float .f64 x) (.float .f64 x)).run P w = .ok (.float .f64 0) w :=
 run_float_arith w .sub t .f64 x x 0 (sub_self h h2)
theorem expB (a : Int) (h0 : 0 ≤ a) (h1 : a < 18446744073709551616) : (Go.bits .and .u64 (a / 4503599627370496) 2047 == 0) = decide (rung a.toNat < 4503599627370496) := by
 obtain ⟨n, rfl⟩ := Int.eq_ofNat_of_zero_le h0
 have hb : Go.bits .and .u64 ((n : Int) / 4503599627370496) 2047 = ((n / 4503599627370496 % 2048 : Nat) : Int) := by
  have e1 : ((n : Int) / 4503599627370496) = ((n / 4503599627370496 : Nat) : Int) := by omega
  rw [e1]
  have hlt : n / 4503599627370496 < 2 ^ 64 := by omega
  unfold Go.bits
  rw [show IntKind.u64.bits = 64 from rfl]
  simp only [BitVec.toNat_and]
  rw [show (BitVec.ofInt 64 2047).toNat = 2 ^ 11 - 1 from rfl]
  have e2 : (BitVec.ofInt 64 ((n / 4503599627370496 : Nat) : Int)).toNat = n / 4503599627370496 := by
   rw [BitVec.ofInt_natCast, BitVec.toNat_ofNat, Nat.mod_eq_of_lt hlt]
  rw [e2, Nat.and_two_pow_sub_one_eq_mod]
  unfold IntKind.wrap
  simp [IntKind.bits, IntKind.signed]
  omega
 rw [hb]
 unfold rung
 rw [Int.toNat_natCast]
 by_cases h : n % 9223372036854775808 < 4503599627370496
 ·rw [decide_eq_true h]
  exact beq_iff_eq.2 (by omega)
 ·rw [decide_eq_false h]
  exact beq_eq_false_iff_ne.2 (by omega)
set_option maxHeartbeats 800000 in
theorem flo_kind.calls (a r : Int) (w : World) (h : flo_kind.f a = some r) : Calls Tryd.prog 29 #[.int .u64 a] w fun e w' => e = .returned (.int .i64 r) ∧ Drawn0 w w' := by
 unfold flo_kind.f at h
 by_cases hb : 0 ≤ a ∧ a < 18446744073709551616
 ·rw [if_pos hb] at h
  obtain rfl := Option.some.inj h
  have ho : (FloatKind.f64.format.order a.toNat a.toNat != some Ordering.eq) = nanB a.toNat := order_self (a := a.toNat) (by omega)
  have hz : (FloatKind.f64.format.order a.toNat 0 == some Ordering.eq) = decide (rung a.toNat = 0) := order_nought (a := a.toNat) (by omega)
  have hx := ext_bits
  have he := expB a hb.1 hb.2
  have hzz : (FloatKind.f64.format.order 0 0 != some Ordering.eq) = false := order_self (a := 0) (by omega)
  clear h hb
  unfold kindV
  cases hn : nanB a.toNat with
  | true =>
   rw [if_pos rfl]
   rw [hn] at ho
   clear hn hz he hzz
   go_enter Tryd.func29, Tryd.ntmps29
   go_wp2
   go_ret
   exact ⟨rfl, Drawn0.refl _⟩
  | false =>
   rw [if_neg (by decide)]
   rw [hn] at ho
   by_cases h0 : rung a.toNat = 0
   ·rw [if_pos h0]
    rw [decide_eq_true h0] at hz
    clear hn h0 he hzz
    go_enter Tryd.func29, Tryd.ntmps29
    go_wp2
    go_ret
    exact ⟨rfl, Drawn0.refl _⟩
   ·rw [if_neg h0]
    rw [decide_eq_false h0] at hz
    cases hi : infB a.toNat with
    | true =>
     rw [if_pos rfl]
     obtain ⟨b, hb1, hb2⟩ := run_sub_inf (P := Tryd.prog) 87 hi w
     clear hn h0 he hi hzz
     go_enter Tryd.func29, Tryd.ntmps29
     go_wp2
     go_ret
     exact ⟨rfl, ⟨1, rfl⟩⟩
    | false =>
     rw [if_neg (by decide)]
     have hs := run_sub_fin (P := Tryd.prog) 87 hn hi
     clear hn h0 hi
     by_cases h1 : rung a.toNat < 4503599627370496
     ·rw [if_pos h1]
      rw [decide_eq_true h1] at he
      clear h1
      go_enter Tryd.func29, Tryd.ntmps29
      go_wp2
      go_ret
      exact ⟨rfl, Drawn0.refl _⟩
     ·rw [if_neg h1]
      rw [decide_eq_false h1] at he
      clear h1
      go_enter Tryd.func29, Tryd.ntmps29
      go_wp2
      go_ret
      exact ⟨rfl, Drawn0.refl _⟩
 ·rw [if_neg hb] at h
  cases h
end Go.Proofs.YtflcanpajgpghaaDoor.Pr
end
section
namespace Go.Proofs.YtflcanpajgpghaaDoor.Pr
open Go.RowKit Go.Proofs.YtflcanpajgpghaaDoorW.PrintWords Go.Proofs.YtflcanpajgpghaaDoorW.PrintLast Go.Proofs.YtflcanpajgpghaaDoorW.PrintMore
theorem infoB : (Tryd.prog.info? 74).map (fun i => (i.zero, i.size, i.bytes)) = some (some (.int .u32 0), 1, 4) := by kernel_rfl
def xrdB (xs : List (List Int)) (i : Int) : (List Int) := xs.getD i.toNat ([] : List Int)
theorem xatB {w : World} {A : Option Addr} {n : Nat} {xs : List (List Int)} (h : Kd.C (Kd.slice 74 (Kd.int .u32)) w A n xs) (i : Int) (h0 : 0 ≤ i) (h1 : i < n) : ∃ ad A0 c0, A = some ad ∧ w.cell? (ad.add i.toNat) = some (.slice A0 (xrdB xs i).length c0) ∧ (xrdB xs i).length ≤ c0 ∧ (Kd.int .u32).C w A0 (xrdB xs i).length (xrdB xs i) := by
 obtain ⟨ad, c, e, _, hK, hc0⟩ := Kd.C_get h ([] : List Int) i h0 h1
 have hc : ∀ j u, c[j]? = some u → w.cell? (ad.add (i.toNat * 1 + j)) = some u := hc0
 obtain ⟨A0, c0, rfl, l0, g0⟩ := hK
 exact ⟨ad, A0, c0, e, by have hq := hc 0 _ rfl; rwa [Nat.mul_one, Nat.add_zero] at hq, l0, g0⟩
theorem take_snoc_L {α : Type} (l : List α) (k : Nat) (d : α) (h : k < l.length) : l.take (k + 1) = l.take k ++ [l.getD k d] := by
 rw [List.take_succ_eq_append_getElem h]; simp [List.getD_eq_getElem?_getD, List.getElem?_eq_getElem h]
set_option maxRecDepth 100000 in
set_option maxHeartbeats 1000000 in
theorem grow_nil (n : Nat) (w : World) (hn : n ≤ 35184372088832) :
  Calls Tryd.prog 78 #[.slice none 0 0, .int .i64 n] w fun e w' => ∃ v0_ : Value, e = .returned (v0_) ∧ Kd.R (Kd.int .u32) 74 w' w.heap.size (fun _ => True) v0_ [] ∧ Below w.heap.size w w' := by
 have hcap : ∀ (W : World) (W2 : World) (v : Value), Kd.R (Kd.int .u32) 74 W w.heap.size (fun _ => True) v (List.replicate n 0) → ∃ v2, (Instr.slice 64 v none (some (.int .i64 0)) none).run Tryd.prog W2 = .ok v2 W2 ∧ Kd.R (Kd.int .u32) 74 W w.heap.size (fun _ => True) v2 [] := by
  intro W W2 v hv
  obtain ⟨A, c, rfl, hl, hr⟩ := Kd.R_reads hv
  refine ⟨.slice A 0 c, ?_, by simpa using Kd.R_take hv (m := 0) (Nat.zero_le _)⟩
  have hel : Tryd.prog.elem 64 = 74 := by simp [Program.elem, Tryd.underlying64]
  have hu : Tryd.prog.underlying 64 = some (.slice (Tryd.prog.elem 64)) := by rw [hel]; exact Tryd.underlying64
  obtain ⟨i0, hi, hz0, hz1, hz2⟩ := info_parts infoB
  rw [run_slice_h (P := Tryd.prog) W2 64 A (List.replicate n (0:Int)).length c hu .i64 0 (by omega) (by omega), hel]
  simp [sizeOf, typeInfo, hi, hz1, sliced, Result.andThen]
  intro _
  cases A <;> simp [Addr.add]
 by_cases h0 : 0 < n
 ·have HB := Aside0.mk (Below.refl w.heap.size w)
  have Hcap := Aside0.mk hcap
  clear hcap
  go_enter Tryd.func78, Tryd.ntmps78
  go_wp2_with (first | ((with_reducible refine gate_builtin (b := .append) (xs := #[.tmp 20, .tmp 21]) rfl ?_); at_builtin; refine Kd.R_append_zeros (Kd.int .u32) (w0 := w) w.heap.size rfl (.tmp 20) (.tmp 21) 64 3 74 (.int .u32 0) 4 rfl Tryd.underlying64 Tryd.underlying3 infoB rfl (by decide) (by omega) (.slice none 0 0) ([] : List Int) (0 : Int) (n : Int) (fun _ => True) rfl rfl rfl (fun _ _ => trivial) (Kd.R_nil _ _ _ _ _) (by omega) (Below.refl _ _) (Nat.le_refl _) (by simp; omega) ?_; intro v105 w5 ho hb hg hat; rw [Int.toNat_natCast, List.nil_append] at ho; obtain ⟨v2, hr2, ho2⟩ := Hcap.out w5 w5 v105 ho; have HO5 := Aside0.mk ho2; have HB5 := Aside0.mk hb; clear ho hb hg hat ho2 Hcap))
  go_ret
  exact ⟨_, rfl, HO5.out, HB5.out⟩
 ·obtain rfl : n = 0 := by omega
  go_enter Tryd.func78, Tryd.ntmps78
  go_wp2
  go_ret
  exact ⟨_, rfl, Kd.R_nil _ _ _ _ _, Below.refl _ _⟩
def totalLen (l : List (List Int)) : Nat := (l.map List.length).sum
theorem totalLen_take (l : List (List Int)) (k : Nat) (h : k < l.length) : totalLen (l.take (k + 1)) = totalLen (l.take k) + (l.getD k []).length := by
 rw [take_snoc_L l k [] h]; simp [totalLen]
theorem totalLen_take_le (l : List (List Int)) (k : Nat) : totalLen (l.take k) ≤ totalLen l := by
 have h : totalLen (l.take k ++ l.drop k) = totalLen (l.take k) + totalLen (l.drop k) := by simp only [totalLen, List.map_append, List.sum_append]
 rw [List.take_append_drop] at h
 omega
theorem flatten_len (l : List (List Int)) : l.flatten.length = totalLen l := by simp [totalLen, List.length_flatten]
def slices_Concat.f (l0 : List (List Int)) : Option (List Int) := if l0.flatten.length < 35184372088832 then some l0.flatten else none
set_option maxRecDepth 100000 in
set_option maxHeartbeats 1000000 in
theorem slices_Concat.calls (A0 : Option Addr) (c0 : Nat) (l0 : List (List Int)) (r : List Int) (w : World) (hr0 : Kd.C (Kd.slice 74 (Kd.int .u32)) w A0 l0.length l0) (hc0 : l0.length ≤ c0) (h : slices_Concat.f l0 = some r) :
  Calls Tryd.prog 66 #[.slice A0 l0.length c0] w fun e w' => ∃ v0_ : Value, e = .returned (v0_) ∧ Kd.R (Kd.int .u32) 74 w' w.heap.size (fun _ => True) v0_ r ∧ Below w.heap.size w w' := by
 unfold slices_Concat.f at h
 by_cases hl : l0.flatten.length < 35184372088832
 ·rw [if_pos hl] at h
  obtain rfl := Option.some.inj h
  clear h
  rw [flatten_len] at hl
  have HR0 := Aside0.mk hr0
  have HLL := Aside0.mk hl
  have HL0 := Kd.C_max hr0
  clear hr0 hl
  go_enter Tryd.func66, Tryd.ntmps66
  go_wp2_with fail
  go_loop [3, 11] (fun s i => ∃ (sv k : Nat), Aside0 (sv = totalLen (l0.take k)) ∧ k ≤ l0.length ∧ sv < 35184372088832 ∧ i = .int .i64 k ∧ s = .int .i64 sv) (fun _ i => l0.length - (intOf i).toNat)
  case atStart => exact ⟨0, 0, ⟨rfl⟩, Nat.zero_le _, by omega, rfl, rfl⟩
  case round =>
   obtain ⟨sv, k, HE, hk, hs, rfl, rfl⟩ := hrel
   by_cases hlt : k < l0.length
   ·obtain ⟨ad, A1, c1, rfl, hx, hc1, hr1⟩ := xatB HR0.out (k : Int) (by omega) (by omega)
    rw [Int.toNat_natCast] at hx
    have ht : sv + (xrdB l0 (k : Int)).length < 35184372088832 := by
     have h1 := totalLen_take l0 k hlt
     have h2 := totalLen_take_le l0 (k + 1)
     have h3 := HLL.out
     have h4 := HE.out
     have h5 : (xrdB l0 (k : Int)).length = (l0.getD k []).length := rfl
     omega
    obtain ⟨x, Hx⟩ : ∃ x, Aside0 (x = xrdB l0 (k : Int)) := ⟨_, ⟨rfl⟩⟩
    rw [← Hx.out] at hx hc1 hr1 ht
    clear hr1
    go_wp2_with fail
    go_round
    case rel =>
     refine ⟨sv + x.length, k + 1, ⟨?_⟩, by omega, by omega, by go_num, by go_num⟩
     rw [totalLen_take l0 k hlt, ← HE.out, Hx.out]
     rfl
    case measure => simp [intOf]; omega
   ·obtain rfl : k = l0.length := by omega
    have HT : Aside0 (sv = totalLen l0) := ⟨by have := HE.out; rwa [List.take_of_length_le (Nat.le_refl _)] at this⟩
    clear HE
    go_wp2_with (go_at_call 78; refine (grow_nil sv _ (by omega)).mono ?_; rintro e w1 ⟨v1, rfl, ho1, hb1⟩; have HO1 := Aside0.mk ho1; have HB1 := Aside0.mk hb1; clear ho1 hb1)
    go_loopw [6, 27] (fun v i wr => ∃ (k : Nat) (xs : List Int), Aside0 (xs = (l0.take k).flatten) ∧ k ≤ l0.length ∧ i = .int .i64 k ∧ Aside0 (Kd.R (Kd.int .u32) 74 wr w.heap.size (fun _ => True) v xs) ∧ Aside0 (Below w.heap.size w wr)) (fun _ i _ => l0.length - (intOf i).toNat)
    case atStart => exact ⟨0, [], ⟨rfl⟩, Nat.zero_le _, rfl, HO1, HB1⟩
    case round =>
     obtain ⟨k, xs, HE, hk, rfl, HO, HB⟩ := hrel
     by_cases hlt : k < l0.length
     ·obtain ⟨ad, A2, c2, rfl, hx, hc2, hr2⟩ := xatB (Kd.C_below HR0.out HB.out) (k : Int) (by omega) (by omega)
      rw [Int.toNat_natCast] at hx
      obtain ⟨x, Hx⟩ : ∃ x, Aside0 (x = xrdB l0 (k : Int)) := ⟨_, ⟨rfl⟩⟩
      rw [← Hx.out] at hx hc2 hr2
      have HR2 := Aside0.mk hr2
      clear hr2
      have HS : Aside0 (xs.length + x.length ≤ 35184372088832) := by
       have h1 := totalLen_take l0 k hlt
       have h2 := totalLen_take_le l0 (k + 1)
       have h3 := HLL.out
       have h5 : x.length = (l0.getD k []).length := by rw [Hx.out]; rfl
       have h6 : xs.length = totalLen (l0.take k) := by rw [HE.out, flatten_len]
       exact ⟨by omega⟩
      go_wp2_with (first | ((with_reducible refine gate_builtin (b := .append) (xs := #[.tmp 31, .tmp 32]) rfl ?_); at_builtin; refine Kd.R_append_rows (Kd.int .u32) (w0 := w) w.heap.size rfl (.tmp 31) (.tmp 32) 64 74 (.int .u32 0) 4 rfl Tryd.underlying64 infoB rfl (by decide) (by omega) _ xs x _ _ _ (fun _ => True) (fun _ => False) rfl rfl HO.out HR2.out (fun _ _ h => h) (fun _ h => h.elim) (fun _ _ => trivial) HB.out HB.out.size (by have := HS.out; omega) ?_; intro v105 w5 ho hb hg hat; have HO5 := Aside0.mk ho; have HB5 := Aside0.mk hb; clear ho hb hg hat))
      go_roundw
      case rel =>
       refine ⟨k + 1, xs ++ x, ⟨?_⟩, by omega, by go_num, HO5, HB5⟩
       rw [take_snoc_L l0 k [] hlt, HE.out, List.flatten_append, Hx.out]
       simp [xrdB]
      case measure => simp [intOf]; omega
     ·have HT2 : Aside0 (xs = l0.flatten) := ⟨by have := HE.out; rwa [List.take_of_length_le (by omega)] at this⟩
      clear HE
      go_wp2_with fail
      go_ret
      exact ⟨_, rfl, by rw [← HT2.out]; exact HO.out, HB.out⟩
 ·rw [if_neg hl] at h
  cases h
end Go.Proofs.YtflcanpajgpghaaDoor.Pr
end
section
namespace Go.Proofs.YtflcanpajgpghaaDoor.Pr
open Go.RowKit Go.Proofs.YtflcanpajgpghaaDoorW.PrintWords Go.Proofs.YtflcanpajgpghaaDoorW.PrintLast Go.Proofs.YtflcanpajgpghaaDoorW.PrintMore
open Kd in
theorem own_made {α : Type} (d : Kd α) {W : World} (base e : Nat) {z : Value} (hz : z.cells.size = d.sz) (hs0 : 0 < d.sz) (z0 : α) {ok okp : Nat → Prop} (hzero : d.M W base okp z0 z.cells.toList) (hok : ∀ k, okp k → ok k) (hfresh : ok W.heap.size) (hbase : base ≤ W.heap.size) (n c : Nat) (hnc : n ≤ c) (hc : c ≤ 281474976710656) :
  d.R e (W.alloc (.cells (madeCells z.cells (c * d.sz)) e)) base ok (.slice (some ⟨W.heap.size, 0, none⟩) n c) (List.replicate n z0) := by
 have hrep := reps_made hz hs0 hzero c
 have hfull : d.R e (W.alloc (.cells (madeCells z.cells (c * d.sz)) e)) base ok (.slice (some ⟨W.heap.size, 0, none⟩) c c) (List.replicate c z0) := by
  refine ⟨fun k hk => ?_, (madeCells z.cells (c * d.sz)).toList, ?_, ?_⟩
  ·have : W.heap.size = k := by simpa [Value.ownBlock] using hk
   subst this
   exact hfresh
  ·have h2 := World.ownsRow_lit (base := base) (e := e) (size := d.sz) W (madeCells z.cells (c * d.sz)) c hbase (by simp only [maxLen]; omega) (by have := hrep.1; simpa using this)
   simpa using h2
  ·refine hrep.imp_ (fun p c hp => d.M_mono (fun k hk => ⟨hok k hk.1, fun he => ?_⟩) (M_below (d.M_bound hp) (below_alloc (Below.refl _ _) _)))
   have h3 : k = W.heap.size := by simpa [Value.ownBlock] using he
   have := hk.2.2.1
   omega
 have := R_take hfull (m := n) (by simpa using hnc)
 rwa [List.take_replicate, Nat.min_eq_left hnc] at this
section
variable {P : Program} {ops : Array Oper} {o : Oper} {rest : List Oper} {a : Act} {Q : Exit → Act → World → Prop}
open Kd in
theorem R_makeC {α : Type} (d : Kd α) {w0 W : World} (base e : Nat) (hgd : o.guard = none) {N : Tmp} (hd : o.dst = some N) (t : TypeId) (x y : Operand) (ho : o.op = .makeSlice t x y) (n c : Int) (hx : a.eval x = .int .i64 n) (hy : a.eval y = .int .i64 c)
  (ht : P.underlying t = some (.slice e)) (z : Value) (bytes : Nat) (hinfo : (P.info? e).map (fun i => (i.zero, i.size, i.bytes)) = some (some z, d.sz, bytes)) (hz : z.cells.size = d.sz) (hs0 : 0 < d.sz) (hb0 : 0 < bytes)
  (z0 : α) {ok okp : Nat → Prop} (hzero : d.M W base okp z0 z.cells.toList) (hok : ∀ k, okp k → ok k) (hfresh : ok W.heap.size) (h0 : 0 ≤ n) (hnc : n ≤ c) (hl : c.toNat * bytes ≤ 281474976710656) (HB : Below base w0 W) (hbase : base ≤ W.heap.size)
  (h : ∀ v1 w1, d.R e w1 base ok v1 (List.replicate n.toNat z0) → Below base w0 w1 → W.grownBy w1 none → (∃ b, v1.ownBlock = some b ∧ W.heap.size ≤ b) → wpList P ops Q rest (a.put o.dst v1) w1) : wpList P ops Q (o :: rest) a W := by
 obtain ⟨m, rfl⟩ := Int.eq_ofNat_of_zero_le h0
 obtain ⟨c, rfl⟩ := Int.eq_ofNat_of_zero_le (Int.le_trans h0 hnc)
 simp only [Int.toNat_natCast] at hl h
 obtain ⟨i0, hi, hzz⟩ := Option.map_eq_some_iff.1 hinfo
 simp only [Prod.mk.injEq] at hzz
 obtain ⟨hz0, hz1, hz2⟩ := hzz
 have hm : c ≤ 281474976710656 := Nat.le_trans (Nat.le_mul_of_pos_right _ hb0) hl
 have hr := run_make (P := P) W t e i0 z ht hi hz0 .i64 .i64 (m : Int) (c : Int) (by omega) (by omega)
  (by
   have h3 : ((i0.bytes * c : Nat) : Int) ≤ 281474976710656 := by rw [hz2, Nat.mul_comm]; omega
   rwa [Int.natCast_mul] at h3) (by omega)
 simp only [Int.toNat_natCast] at hr
 rw [hz1] at hr
 refine event_run hgd (show (execOp a.eval o).run P W = .ok (.value (.slice (some ⟨W.heap.size, 0, none⟩) m c)) _ by simp [execOp, ho, hx, hy, hr]) (h _ _ (own_made d base e hz hs0 z0 hzero hok hfresh hbase m c (by omega) hm) (HB.alloc hbase _) (World.grownBy_alloc W _ none) ⟨W.heap.size, by simp [Value.ownBlock], Nat.le_refl _⟩)
end
end Go.Proofs.YtflcanpajgpghaaDoor.Pr
end
section
namespace Go.Proofs.YtflcanpajgpghaaDoor.Pr
open Go.RowKit Go.Proofs.YtflcanpajgpghaaDoorW.PrintWords Go.Proofs.YtflcanpajgpghaaDoorW.PrintLast Go.Proofs.YtflcanpajgpghaaDoorW.PrintMore Go.Shelf
shelf_lay Lays.n129 Nm 129 at Tryd as Tryd.laysLen64
shelf_lay Lays.n128 Nm 128 at Tryd as Tryd.laysLen32
theorem fLen64 : Tryd.laysLen64_ren.f 129 = 69 := by kernel_rfl
theorem fLen32 : Tryd.laysLen32_ren.f 128 = 65 := by kernel_rfl
def bits_Len64.f (a : Int) : Option Int := if 0 ≤ a ∧ a ≤ 18446744073709551615 then some (Lib.bitLen a.toNat : Int) else none
def bits_Len32.f (a : Int) : Option Int := if 0 ≤ a ∧ a ≤ 4294967295 then some (Lib.bitLen a.toNat : Int) else none
theorem bits_Len64.calls (a r : Int) (w : World) (h : bits_Len64.f a = some r) : Calls Tryd.prog 69 #[.int .u64 a] w fun e w' => e = .returned (.int .i64 r) ∧ Drawn0 w w' := by
 unfold bits_Len64.f at h
 by_cases hb : 0 ≤ a ∧ a ≤ 18446744073709551615
 ·rw [if_pos hb] at h
  obtain rfl := Option.some.inj h
  have := Any.bits_Len64 { Tryd.laysLen64 with } a w hb.1 hb.2
  rw [fLen64] at this
  exact this.mono fun e w' ⟨h1, h2⟩ => ⟨h1, by rw [h2]; exact Drawn0.refl w⟩
 ·rw [if_neg hb] at h
  exact absurd h (by simp)
theorem bits_Len32.calls (a r : Int) (w : World) (h : bits_Len32.f a = some r) : Calls Tryd.prog 65 #[.int .u32 a] w fun e w' => e = .returned (.int .i64 r) ∧ Drawn0 w w' := by
 unfold bits_Len32.f at h
 by_cases hb : 0 ≤ a ∧ a ≤ 4294967295
 ·rw [if_pos hb] at h
  obtain rfl := Option.some.inj h
  have := Any.bits_Len32 { Tryd.laysLen32 with } a w hb.1 hb.2
  rw [fLen32] at this
  exact this.mono fun e w' ⟨h1, h2⟩ => ⟨h1, by rw [h2]; exact Drawn0.refl w⟩
 ·rw [if_neg hb] at h
  exact absurd h (by simp)
end Go.Proofs.YtflcanpajgpghaaDoor.Pr
end
section
namespace Go.Proofs.YtflcanpajgpghaaDoor.Pr
open Go.RowKit Go.Proofs.YtflcanpajgpghaaDoorW.PrintWords Go.Proofs.YtflcanpajgpghaaDoorW.PrintLast Go.Proofs.YtflcanpajgpghaaDoorW.PrintMore Go.Shelf
shelf_lay LaysM.n171 Nm 171 at Tryd as Tryd.laysItoa
theorem fItoa : Tryd.laysItoa_ren.f 171 = 30 := by kernel_rfl
theorem gPow : Tryd.prog.globalNamed "internal/strconv.uint64pow10" = some 1 := by kernel_rfl
def PowLaid (w : World) : Prop := Lib.TabIs Tryd.prog w "internal/strconv.uint64pow10" .u64 Lib.pow10Tab
theorem globBelow {w w' : World} (h : PowLaid w) (hb : Below w.heap.size w w') : PowLaid w' := by
 have hlt := World.block_lt_of_cell? w _ (h.cell gPow 0 (by decide))
 unfold PowLaid Lib.TabIs World.var? at h ⊢
 rw [gPow] at h ⊢
 simp only [Option.bind_some] at h ⊢
 rw [hb.block _ hlt]
 exact h
theorem globDrewN {w : World} (h : PowLaid w) (n : Nat) : PowLaid (w.drewN n) := h
theorem globDrew {w : World} (h : PowLaid w) : PowLaid w.drew := h
theorem below_grow (w : World) (n : Nat) (os : Array Obj) : Below w.heap.size w (Go.Sort.grow (w.drewN n) os) := ⟨rfl, rfl, rfl, by
  show w.heap.size ≤ (w.heap ++ os).size
  rw [Array.size_append]; omega, fun k hk => by
  show (w.heap ++ os)[k]? = w.heap[k]?
  exact Array.getElem?_append_left hk⟩
def itoaOf (n : Int) : ByteArray := ⟨(Lib.itoa n).toArray⟩
def strconv_Itoa.f (a0 : Int) : Option ByteArray := if -9223372036854775808 ≤ a0 ∧ a0 ≤ 9223372036854775807 then some (itoaOf a0) else none
theorem strconv_Itoa.calls (a0 : Int) (r : ByteArray) (w : World) (hG : PowLaid w) (h : strconv_Itoa.f a0 = some r) :
  Calls Tryd.prog 30 #[.int .i64 a0] w fun e w' => e = .returned (.string r) ∧ Below w.heap.size w w' := by
 unfold strconv_Itoa.f at h
 by_cases hs : -9223372036854775808 ≤ a0 ∧ a0 ≤ 9223372036854775807
 ·rw [if_pos hs] at h
  obtain rfl := Option.some.inj h
  have := Any.strconv_Itoa { Tryd.laysItoa with } a0 hs.1 hs.2 w hG
  rw [fItoa] at this
  exact this.mono fun e w' ⟨h1, k, os, h2⟩ => ⟨h1, by rw [h2]; exact below_grow w k os⟩
 ·rw [if_neg hs] at h
  exact absurd h (by simp)
shelf_lay Lays.n105 Nm 105 at Tryd as Tryd.laysRepeat
theorem extraRepeat : Builder.Extra Tryd.prog Tryd.laysRepeat_ren where
 sizeBuilder := by kernel_rfl
 liesBuilder := by kernel_rfl
 t5 := Tryd.laysRepeat.t5
 a5 := Tryd.laysRepeat.a5
 z5 := Tryd.laysRepeat.z5
 v5 := Tryd.laysRepeat.v5
 infoByte := by kernel_rfl
 cellsByte := by kernel_rfl
 sizeByte := by kernel_rfl
 neB5 := by decide
theorem fRepeat : Tryd.laysRepeat_ren.f 105 = 31 := by kernel_rfl
def repeatOf (a0 : ByteArray) (n : Nat) : ByteArray := ⟨(Lib.repeatL a0.data.toList n).toArray⟩
def strings_Repeat.f (a0 : ByteArray) (a1 : Int) : Option ByteArray := if 0 ≤ a1 ∧ a1 ≤ 9223372036854775807 ∧ a0.size * a1.toNat ≤ 140737488355328 then some (repeatOf a0 a1.toNat) else none
theorem strings_Repeat.calls (a0 : ByteArray) (a1 : Int) (r : ByteArray) (w : World) (h : strings_Repeat.f a0 a1 = some r) :
  Calls Tryd.prog 31 #[.string a0, .int .i64 a1] w fun e w' => e = .returned (.string r) ∧ Below w.heap.size w w' := by
 unfold strings_Repeat.f at h
 by_cases hs : 0 ≤ a1 ∧ a1 ≤ 9223372036854775807 ∧ a0.size * a1.toNat ≤ 140737488355328
 ·rw [if_pos hs] at h
  obtain rfl := Option.some.inj h
  obtain ⟨n, rfl⟩ := Int.eq_ofNat_of_zero_le hs.1
  have := Any.strings_Repeat Tryd.laysRepeat extraRepeat a0 n w (by omega) hs.2.2
  rw [fRepeat] at this
  exact this
 ·rw [if_neg hs] at h
  exact absurd h (by simp)
shelf_lay Lays.n162 Nm 162 at Tryd as Tryd.laysTrim
theorem fTrim : Tryd.laysTrim_ren.f 162 = 67 := by kernel_rfl
def trimOf (a0 : ByteArray) (c : UInt8) : ByteArray := ⟨(Lib.trimRightB a0.data.toList c).toArray⟩
def strings_TrimRight.f (a0 a1 : ByteArray) : Option ByteArray := if a0.size ≤ 9223372036854775807 then (if a1 = ⟨#[48]⟩ then some (trimOf a0 48) else none) else none
theorem strings_TrimRight.calls (a0 a1 : ByteArray) (r : ByteArray) (w : World) (h : strings_TrimRight.f a0 a1 = some r) :
  Calls Tryd.prog 67 #[.string a0, .string a1] w fun e w' => e = .returned (.string r) ∧ Drawn0 w w' := by
 unfold strings_TrimRight.f at h
 by_cases hs : a0.size ≤ 9223372036854775807
 ·rw [if_pos hs] at h
  by_cases h1 : a1 = ⟨#[48]⟩
  ·rw [if_pos h1] at h
   obtain rfl := Option.some.inj h
   subst h1
   have := Any.strings_TrimRight_one Tryd.laysTrim a0 48 (by decide) w hs
   rw [fTrim] at this
   exact this.mono fun e w' ⟨h1, h2⟩ => ⟨h1, by rw [h2]; exact Drawn0.refl w⟩
  ·rw [if_neg h1] at h
   exact absurd h (by simp)
 ·rw [if_neg hs] at h
  exact absurd h (by simp)
end Go.Proofs.YtflcanpajgpghaaDoor.Pr
end
section
namespace Go.Proofs.YtflcanpajgpghaaDoor.Pr
open Go.RowKit Go.Proofs.YtflcanpajgpghaaDoorW.PrintWords Go.Proofs.YtflcanpajgpghaaDoorW.PrintLast Go.Proofs.YtflcanpajgpghaaDoorW.PrintMore
theorem am {p : Prop} (h : p) : Aside0 p := ⟨h⟩
abbrev zS_ : Array Value := #[.int .u64 0, .int .u64 0, .slice none 0 0, .int .i64 0, .int .u64 0, .string (⟨#[]⟩ : ByteArray), .slice none 0 0, .int .i64 0, .int .u64 0, .string (⟨#[]⟩ : ByteArray), .slice none 0 0]
theorem pB {p : Prop} (h : p := by repeat (first | (with_reducible first | exact HB.out | apply below_alloc | apply pw_below_drewN | apply below_drew1 | refine below_set ?_ (Aside0.out (by with_reducible assumption))) | exact HB.out)) : p := h
theorem pK {p q : Prop} (h : p) (f : p → q := by intro h_; (with_reducible repeat (first | refine blk_drewN ?_ _ | refine blk_drew ?_ | refine blk_alloc ?_ _)); exact h_) : q := f h
theorem pkb {W W1 W2 : World} {g : Nat} {o : Obj} (h : W.heap[g]? = some o) (hb : Below W1.heap.size W1 W2) (f : W.heap[g]? = some o → W1.heap[g]? = some o := by intro h_; (with_reducible repeat (first | refine blk_drewN ?_ _ | refine blk_drew ?_ | refine blk_alloc ?_ _)); exact h_) : W2.heap[g]? = some o := blk_below (f h) hb
theorem pkl {W W1 : World} {g : Nat} {o : Obj} (h : W.heap[g]? = some o) (f : W.heap[g]? = some o → W1.heap[g]? = some o := by intro h_; (with_reducible repeat (first | refine blk_drewN ?_ _ | refine blk_drew ?_ | refine blk_alloc ?_ _)); exact h_) : g < W1.heap.size := blk_lt (f h)
theorem pR {p q : Prop} (h : p) (f : p → q := by intro h_; (with_reducible repeat (first | apply Kd.R_alloc | apply Kd.R_drewN | apply Kd.R_drew)); exact h_) : q := f h
theorem pN {p q : Prop} (h : p) (f : p → q := by intro h_; (with_reducible repeat (first | apply Kd.N_alloc | apply Kd.N_drewN | apply Kd.N_drew)); exact h_) : q := f h
theorem pV {p q : Prop} (h : p) (f : p → q := by intro h_; (with_reducible repeat (first | apply Kd.V_alloc | apply Kd.V_drewN | apply Kd.V_drew)); exact h_) : q := f h
theorem pC {p q : Prop} (h : p) (f : p → q := by intro h_; (repeat (first | exact h_ | (with_reducible refine Kd.C_alloc ?_ _) | (with_reducible refine Kd.C_drewN ?_ _) | (with_reducible refine Kd.C_drew ?_)))) : q := f h
theorem pM {p : Prop} (h : p := by (try simp only [List.map_toArray, List.map_cons, List.map_nil]); first | done | rfl | (simp only [List.length_drop, List.length_take]; rfl)) : p := h
theorem pE {p : Prop} (h : p := by first | rfl | (simp [errW_none, errW_some] <;> rfl) | (simp [*, errW_none, errW_some] <;> rfl)) : p := h
theorem pZ {p : Prop} (h : p := by first | exact Kd.R_nil _ _ _ _ _ | exact Kd.N_nil _ _ _ _ _ | exact Kd.V_nil _ _ _ _ _ | exact Kd.Q_nil _ _ _ _ _ | exact Kd.S_nil _ _ _ _ _) : p := h
theorem pD {p : Prop} [Decidable p] (h : decide p = true := by first | (with_reducible assumption) | assumption) : p := of_decide_eq_true h
theorem pG {p : Prop} (h : p := by first | (with_reducible exact HG.out) | (with_reducible exact globDrewN HG.out _) | exact globBelow HG.out pB | exact globBelow HG.out pB | (repeat (first | (with_reducible exact HG.out) | apply globDrewN | apply globDrew))) : p := h
theorem pA {p : Prop} (h : p := by simp only [Act.put, List.setIfInBounds_toArray, List.set_cons_zero, List.set_cons_succ, i64_w, i32_w]; try rfl) : p := h
theorem pX {α : Type} {d : Kd α} {e : Nat} {w : World} {base : Nat} {ok : Nat → Prop} {v : Value} {xs : List α} {g t : Nat} {cells : Array Value} (h : d.R e w base ok v xs) (hb : w.heap[g]? = some (.cells cells t (0, 0))) (ht : e ≠ t ∨ ∀ k, ok k → k ≠ g := by first | (left; decide) | (right; intro k_ h_; first | exact h_ | exact h_.2 | exact h_.1.2 | exact h_.2.2 | exact h_.2.1 | exact h_.1.1.2 | exact h_.1.2.2 | exact h_.2.2.1 | exact h_.2.2.2)) : some g ≠ v.ownBlock := by
 rcases ht with ht | ht
 ·exact Kd.R_ne h hb ht
 ·intro e_
  exact ht g (h.1 g e_.symm) rfl
def bm (n k : Nat) : Array Bool := ((List.range n).map (Nat.testBit k)).toArray
theorem cz0 {W : World} {g : Nat} {t : TypeId} {x0 : Value} {l : List Value} (h : W.heap[g]? = some (.cells (List.toArray (x0 :: l)) t (0, 0))) : W.cell? ⟨g, 0, none⟩ = some x0 := (blk_cell h 0).trans rfl
theorem cz1 {W : World} {g : Nat} {t : TypeId} {x0 x1 : Value} {l : List Value} (h : W.heap[g]? = some (.cells (List.toArray (x0 :: x1 :: l)) t (0, 0))) : W.cell? ⟨g, 1, none⟩ = some x1 := (blk_cell h 1).trans rfl
theorem cz2 {W : World} {g : Nat} {t : TypeId} {x0 x1 x2 : Value} {l : List Value} (h : W.heap[g]? = some (.cells (List.toArray (x0 :: x1 :: x2 :: l)) t (0, 0))) : W.cell? ⟨g, 2, none⟩ = some x2 := (blk_cell h 2).trans rfl
theorem cz3 {W : World} {g : Nat} {t : TypeId} {x0 x1 x2 x3 : Value} {l : List Value} (h : W.heap[g]? = some (.cells (List.toArray (x0 :: x1 :: x2 :: x3 :: l)) t (0, 0))) : W.cell? ⟨g, 3, none⟩ = some x3 := (blk_cell h 3).trans rfl
theorem cf1 {W : World} {g : Nat} {t : TypeId} {x0 : Value} (h : W.heap[g]? = some (.cells #[x0] t (0, 0))) : W.cell? ⟨g, 0, none⟩ = some x0 ∧ W.frozen? ⟨g, 0, none⟩ = false := ⟨(blk_cell h 0).trans rfl, blk_frozen h 0⟩
theorem cf2 {W : World} {g : Nat} {t : TypeId} {x0 x1 : Value} (h : W.heap[g]? = some (.cells #[x0, x1] t (0, 0))) : W.cell? ⟨g, 0, none⟩ = some x0 ∧ W.cell? ⟨g, 1, none⟩ = some x1 ∧ W.frozen? ⟨g, 0, none⟩ = false ∧ W.frozen? ⟨g, 1, none⟩ = false := ⟨(blk_cell h 0).trans rfl, (blk_cell h 1).trans rfl, blk_frozen h 0, blk_frozen h 1⟩
theorem cf4 {W : World} {g : Nat} {t : TypeId} {x0 x1 x2 x3 : Value} (h : W.heap[g]? = some (.cells #[x0, x1, x2, x3] t (0, 0))) : W.cell? ⟨g, 0, none⟩ = some x0 ∧ W.cell? ⟨g, 1, none⟩ = some x1 ∧ W.cell? ⟨g, 2, none⟩ = some x2 ∧ W.cell? ⟨g, 3, none⟩ = some x3 ∧ W.frozen? ⟨g, 0, none⟩ = false ∧ W.frozen? ⟨g, 1, none⟩ = false ∧ W.frozen? ⟨g, 2, none⟩ = false ∧ W.frozen? ⟨g, 3, none⟩ = false := ⟨(blk_cell h 0).trans rfl, (blk_cell h 1).trans rfl, (blk_cell h 2).trans rfl, (blk_cell h 3).trans rfl, blk_frozen h 0, blk_frozen h 1, blk_frozen h 2, blk_frozen h 3⟩
end Go.Proofs.YtflcanpajgpghaaDoor.Pr
end
section
namespace Go.Proofs.YtflcanpajgpghaaDoor.Pr
open Go.RowKit Go.Proofs.YtflcanpajgpghaaDoorW.PrintWords Go.Proofs.YtflcanpajgpghaaDoorW.PrintLast Go.Proofs.YtflcanpajgpghaaDoorW.PrintMore
attribute [local go_sem] max2_int min2_int max_two min_two max_three min_three max_four min_four
def dec_big_trim.l0 : Nat → List Int → Option (List Int)
 | 0, _ => none
 | k + 1, x0 => if (x0.length : Int) > 0 then (if 0 ≤ (wrap64 ((x0.length : Int) - 1)) then (if (wrap64 ((x0.length : Int) - 1)) < (x0.length : Int) then (if (rd x0 (wrap64 ((x0.length : Int) - 1))) = 0 then (if (wrap64 ((x0.length : Int) - 1)) ≤ (x0.length : Int) then (dec_big_trim.l0 k (x0.take ((wrap64 ((x0.length : Int) - 1)) : Int).toNat)) else (none)) else (some x0)) else (none)) else (none)) else (some x0)
def dec_big_trim.f (k : Nat) (l0 : List Int) : Option (List Int) := dec_big_trim.l0 k l0
theorem dec_big_trim.mono_l : ∀ k, (∀ y0, LeO (dec_big_trim.l0 k y0) (dec_big_trim.l0 (k + 1) y0))
 | 0 => fun _ r h => by simp [dec_big_trim.l0] at h
 | k + 1 => by
  have ih0 := dec_big_trim.mono_l k
  ·intro y0
   unfold dec_big_trim.l0
   repeat' first
   | (with_reducible exact ih0 _)
   | (with_reducible exact LeO.refl _)
   | (with_reducible exact LeO.none _)
   | (with_reducible refine LeO.ite ?_ ?_)
   | (with_reducible refine LeO.bind ?_ (fun _ => ?_))
   | exact ih0 _
   | exact LeO.none _
   | refine LeO.ite ?_ ?_
   | refine LeO.bind ?_ (fun _ => ?_)
theorem dec_big_trim.mono : ∀ a0 k, LeO (dec_big_trim.f k a0) (dec_big_trim.f (k + 1) a0) := by
 intro a0 k
 have ih0 := dec_big_trim.mono_l k
 unfold dec_big_trim.f
 repeat' first
   | (with_reducible exact ih0 _)
   | (with_reducible exact LeO.refl _)
   | (with_reducible exact LeO.none _)
   | (with_reducible refine LeO.ite ?_ ?_)
   | (with_reducible refine LeO.bind ?_ (fun _ => ?_))
   | exact ih0 _
   | exact LeO.none _
   | refine LeO.ite ?_ ?_
   | refine LeO.bind ?_ (fun _ => ?_)
set_option maxHeartbeats 8000000 in
set_option maxRecDepth 100000 in
theorem dec_big_trim.calls (k : Nat) (P0_ : Nat → Prop) (A0 : Option Addr) (c0 : Nat) (l0 : List Int) (r : List Int) (w : World) (hs0 : Kd.V (Kd.int .u32) 74 w w.heap.size (fun k_ => P0_ k_) (.slice A0 l0.length c0) l0) (h : dec_big_trim.f k l0 = some r) :
  Calls Tryd.prog 64 #[.slice A0 l0.length c0] w fun e w' => ∃ v0_ : Value, e = .returned (v0_) ∧ Kd.V (Kd.int .u32) 74 w' w.heap.size (fun k_ => (P0_ k_ ∨ w.heap.size ≤ k_)) v0_ r ∧ Below w.heap.size w w' := by
 have HO0 := am (show Kd.V (Kd.int .u32) 74 w w.heap.size (fun k_ => (P0_ k_ ∨ w.heap.size ≤ k_)) (.slice A0 l0.length c0) l0 from Kd.V_mono hs0 (fun k_ hk => .inl hk))
 have HB := am (Below.refl w.heap.size w)
 have H : (dec_big_trim.l0 k l0) = some r := h
 clear h
 have H' := am H
 clear H
 go_enter Tryd.func64, Tryd.ntmps64
 go_wp2
 go_loopg [0] k (fun kq v0 w' => ∃ (x0_1 : List Int), Aside0 (dec_big_trim.l0 kq x0_1 = some r) ∧ Aside0 (kq ≤ k) ∧ Aside0 (Kd.V (Kd.int .u32) 74 w' w.heap.size (fun k_ => (P0_ k_ ∨ w.heap.size ≤ k_)) v0 x0_1) ∧ Aside0 (Below w.heap.size w w'))
 case atStart => exact ⟨(l0), H', ⟨Nat.le_refl _⟩, ⟨by (with_reducible repeat (first | apply Kd.V_alloc | apply Kd.V_drewN | apply Kd.V_drew)); exact HO0.out⟩, ⟨pB⟩⟩
 case round =>
  clear H'
  obtain ⟨x0_1, HA, HK1, HO_0, HB⟩ := hrel
  cases gk with
  | zero => exact absurd HA.out (by simp [dec_big_trim.l0])
  | succ k1 =>
   have H := HA.out
   clear HA
   simp only [dec_big_trim.l0] at H
   by_cases c2 : (x0_1.length : Int) > 0
   ·rw [if_pos c2] at H
    have c2b0 : decide (0 < (x0_1.length : Int)) = true := decide_eq_true c2
    have c2b1 : decide (0 < x0_1.length) = true := decide_eq_true (by omega)
    clear c2
    obtain ⟨ji3, hji3⟩ : ∃ j_ : Int, (wrap64 ((x0_1.length : Int) - 1)) = j_ := ⟨_, rfl⟩
    replace H : (if 0 ≤ (ji3) then (if (ji3) < (x0_1.length : Int) then (if (rd x0_1 (ji3)) = 0 then (if (ji3) ≤ (x0_1.length : Int) then (dec_big_trim.l0 k1 (x0_1.take ((ji3) : Int).toNat)) else (none)) else (some x0_1)) else (none)) else (none)) = some r := by first | (rw [hji3] at H; exact H) | (simp only [hji3] at H ⊢; exact H)
    have hji3w : (IntKind.i64.wrap ((x0_1.length : Int) - 1)) = ji3 := (i64_w _).trans hji3
    by_cases c4 : 0 ≤ (ji3)
    ·rw [if_pos c4] at H
     have c4b0 : decide (0 ≤ (ji3)) = true := decide_eq_true c4
     clear c4
     by_cases c5 : (ji3) < (x0_1.length : Int)
     ·rw [if_pos c5] at H
      have c5b0 : decide ((ji3) < (x0_1.length : Int)) = true := decide_eq_true c5
      clear c5
      by_cases c6 : (rd x0_1 (ji3)) = 0
      ·rw [if_pos c6] at H
       have c6b0 : ((rd x0_1 (ji3)) == 0) = true := beq_iff_eq.mpr c6
       have c6b1 : ((rd x0_1 (ji3)) != 0) = false := bne_eq_false_iff_eq.mpr c6
       clear c6
       have c7b0 := eq_true (pD : 0 ≤ (ji3))
       by_cases c8 : (ji3) ≤ (x0_1.length : Int)
       ·rw [if_pos c8] at H
        have c8b0 := eq_true c8
        have c8b1 : decide ((ji3) ≤ (x0_1.length : Int)) = true := decide_eq_true c8
        clear c8
        obtain ⟨y102, hy102⟩ : ∃ y_ : List Int, y_ = (x0_1.take ((ji3) : Int).toNat) := ⟨_, rfl⟩
        replace H : (dec_big_trim.l0 k1 y102) = some r := by first | (rw [hy102]; with_reducible exact H) | (have H2_ := (Option.bind_some _ _).symm.trans H; rw [hy102]; with_reducible exact H2_) | (have H2_ := (Option.bind_some _ _).symm.trans H; with_reducible exact H2_) | with_reducible exact H | (rw [hy102]; exact H) | exact H
        have Ny102 := am hy102
        clear hy102
        have H' := am H
        clear H
        obtain ⟨Ao9, co9, eo9⟩ := Kd.V_slice HO_0.out
        subst eo9
        have p101 : 0 ≤ ((ji3) : Int) := pD
        have q101 : (ji3) < (x0_1.length : Int) := pD
        obtain ⟨ad101, e101, hx101_0⟩ := Kd.at_int (Kd.V_reads' HO_0.out).2.2 (ji3) p101 q101
        cases e101
        replace p101 := eq_true p101
        replace q101 := eq_true q101
        have q10 : ((ji3) : Int) ≤ ((x0_1.length : Int) : Int) := pD
        obtain ⟨i010, hi010, _, hsz10, _⟩ := info_parts info74
        have hroom10 : x0_1.length ≤ co9 := (Kd.V_reads' HO_0.out).2.1
        have hC10 : Kd.F (Kd.int .u32) _ _ (some ad101) x0_1.length x0_1 := (Kd.V_at (base := w.heap.size) HO_0.out).2.2
        have hcut10 := cut_to (P := Tryd.prog) 64 74 .i64 Tryd.underlying64 hi010 (some ad101) x0_1.length co9 (ji3) pD q10 hroom10
        have hr10 := Kd.F_take (m := ((ji3) : Int).toNat) hC10 (by omega)
        have hy10 : y102.length = ((ji3) : Int).toNat := (by rw [Ny102.out, List.length_take]; omega)
        rw [← Ny102.out] at hr10
        rw [← hy10] at hcut10
        have HO106 := am (show Kd.V (Kd.int .u32) 74 _ w.heap.size _ (.slice (some ad101) y102.length co9) y102 from Kd.V_mk (by omega) hr10)
        have HC106 := am (show y102.length ≤ co9 from by omega)
        clear hr10 hC10 hroom10 hi010 hsz10
        have KY10 := am hy10
        clear hy10
        replace q10 := eq_true q10
        go_wp2
        go_roundg k1
        case measure => have := HK1.out; omega
        case rel => exact ⟨(y102), H', ⟨by have := HK1.out; omega⟩, ⟨by (with_reducible repeat (first | apply Kd.V_alloc | apply Kd.V_drewN | apply Kd.V_drew)); exact HO106.out⟩, ⟨pB⟩⟩
       ·rw [if_neg c8] at H
        exact absurd H (by simp)
      ·rw [if_neg c6] at H
       have c6b0 : ((rd x0_1 (ji3)) == 0) = false := beq_eq_false_iff_ne.mpr c6
       have c6b1 : ((rd x0_1 (ji3)) != 0) = true := bne_iff_ne.mpr c6
       obtain rfl := Option.some.inj H
       obtain ⟨Ao11, co11, eo11⟩ := Kd.V_slice HO_0.out
       subst eo11
       have p101 : 0 ≤ ((ji3) : Int) := pD
       have q101 : (ji3) < (x0_1.length : Int) := pD
       obtain ⟨ad101, e101, hx101_0⟩ := Kd.at_int (Kd.V_reads' HO_0.out).2.2 (ji3) p101 q101
       cases e101
       replace p101 := eq_true p101
       replace q101 := eq_true q101
       go_wp2
       go_ret
       exact ⟨_, by first | rfl | (simp [errW_none, errW_some] <;> rfl) | (simp only [← hji3]; first | rfl | (simp [errW_none, errW_some] <;> rfl)) | (simp [*, errW_none, errW_some] <;> rfl), by (with_reducible repeat (first | apply Kd.V_alloc | apply Kd.V_drewN | apply Kd.V_drew)); exact HO_0.out, pB⟩
     ·rw [if_neg c5] at H
      exact absurd H (by simp)
    ·rw [if_neg c4] at H
     exact absurd H (by simp)
   ·rw [if_neg c2] at H
    have c2b0 : decide (0 < (x0_1.length : Int)) = false := decide_eq_false c2
    have c2b1 : decide (0 < x0_1.length) = false := decide_eq_false (by omega)
    clear c2
    obtain rfl := Option.some.inj H
    obtain ⟨Ao12, co12, eo12⟩ := Kd.V_slice HO_0.out
    subst eo12
    go_wp2
    go_ret
    exact ⟨_, pE, by (with_reducible repeat (first | apply Kd.V_alloc | apply Kd.V_drewN | apply Kd.V_drew)); exact HO_0.out, pB⟩
def dec_big_plus.l0 : Nat → List Int → List Int → Int → List Int → Int → Int → Option (List Int)
 | 0, _, _, _, _, _, _ => none
 | k + 1, x1, x5, x6, x20, x21, x22 => if x22 < x21 then (if 0 ≤ x22 then (if x22 < (x20.length : Int) then (if x22 < (x1.length : Int) then (if x5.length < 35184372088832 then (dec_big_plus.l0 k x1 (x5 ++ [(IntKind.u64.wrap ((IntKind.u64.wrap (x6 + (IntKind.u64.wrap (rd x20 x22)))) + (IntKind.u64.wrap (rd x1 x22)))) % 4294967296]) ((IntKind.u64.wrap ((IntKind.u64.wrap (x6 + (IntKind.u64.wrap (rd x20 x22)))) + (IntKind.u64.wrap (rd x1 x22)))) / 4294967296) x20 x21 (wrap64 (x22 + 1))) else (none)) else (if x5.length < 35184372088832 then (dec_big_plus.l0 k x1 (x5 ++ [(IntKind.u64.wrap (x6 + (IntKind.u64.wrap (rd x20 x22)))) % 4294967296]) ((IntKind.u64.wrap (x6 + (IntKind.u64.wrap (rd x20 x22)))) / 4294967296) x20 x21 (wrap64 (x22 + 1))) else (none))) else (none)) else (none)) else (if x5.length < 35184372088832 then ((dec_big_trim.f k (x5 ++ [(x6) % 4294967296])).bind fun t121 => (some t121)) else (none))
def dec_big_plus.fg (k : Nat) (l0 : List Int) (l1 : List Int) : Option (List Int) := if 0 ≤ wrap64 ((l0.length : Int) + 1) then (if (wrap64 ((l0.length : Int) + 1) : Int).toNat ≤ 70368744177664 then (dec_big_plus.l0 k l1 (List.replicate 0 0) 0 l0 (l0.length : Int) 0) else (none)) else (none)
theorem dec_big_plus.mono_l : ∀ k, (∀ y0 y1 y2 y3 y4 y5, LeO (dec_big_plus.l0 k y0 y1 y2 y3 y4 y5) (dec_big_plus.l0 (k + 1) y0 y1 y2 y3 y4 y5))
 | 0 => fun _ _ _ _ _ _ r h => by simp [dec_big_plus.l0] at h
 | k + 1 => by
  have ih0 := dec_big_plus.mono_l k
  ·intro y0 y1 y2 y3 y4 y5
   unfold dec_big_plus.l0
   repeat' first
   | (with_reducible exact ih0 _ _ _ _ _ _)
   | (with_reducible exact dec_big_trim.mono _ _)
   | (with_reducible exact LeO.refl _)
   | (with_reducible exact LeO.none _)
   | (with_reducible refine LeO.ite ?_ ?_)
   | (with_reducible refine LeO.bind ?_ (fun _ => ?_))
   | exact ih0 _ _ _ _ _ _
   | exact dec_big_trim.mono _ _
   | exact LeO.none _
   | refine LeO.ite ?_ ?_
   | refine LeO.bind ?_ (fun _ => ?_)
theorem dec_big_plus.mono_g : ∀ a0 a1 k, LeO (dec_big_plus.fg k a0 a1) (dec_big_plus.fg (k + 1) a0 a1) := by
 intro a0 a1 k
 have ih0 := dec_big_plus.mono_l k
 unfold dec_big_plus.fg
 repeat' first
   | (with_reducible exact ih0 _ _ _ _ _ _)
   | (with_reducible exact dec_big_trim.mono _ _)
   | (with_reducible exact LeO.refl _)
   | (with_reducible exact LeO.none _)
   | (with_reducible refine LeO.ite ?_ ?_)
   | (with_reducible refine LeO.bind ?_ (fun _ => ?_))
   | exact ih0 _ _ _ _ _ _
   | exact dec_big_trim.mono _ _
   | exact LeO.none _
   | refine LeO.ite ?_ ?_
   | refine LeO.bind ?_ (fun _ => ?_)
set_option maxHeartbeats 8000000 in
set_option maxRecDepth 100000 in
theorem dec_big_plus.calls_ge (k : Nat) (A0 : Option Addr) (c0 : Nat) (l0 : List Int) (A1 : Option Addr) (c1 : Nat) (l1 : List Int) (r : List Int) (w : World) (hr0 : Kd.C (Kd.int .u32) w A0 l0.length l0) (hc0 : l0.length ≤ c0) (hr1 : Kd.C (Kd.int .u32) w A1 l1.length l1) (hc1 : l1.length ≤ c1) (hge : ¬ (l0.length : Int) < (l1.length : Int)) (h : dec_big_plus.fg k l0 l1 = some r) :
  Calls Tryd.prog 34 #[.slice A0 l0.length c0, .slice A1 l1.length c1] w fun e w' => ∃ v0_ : Value, e = .returned (v0_) ∧ Kd.V (Kd.int .u32) 74 w' w.heap.size (fun k_ => (w.heap.size ≤ k_)) v0_ r ∧ Below w.heap.size w w' := by
 have cgeb : decide ((l0.length : Int) < (l1.length : Int)) = false := decide_eq_false hge
 have HR0 := am hr0
 have HC0 := am hc0
 clear hr0 hc0
 have HR1 := am hr1
 have HC1 := am hc1
 clear hr1 hc1
 have HB := am (Below.refl w.heap.size w)
 have H : (if 0 ≤ wrap64 ((l0.length : Int) + 1) then (if (wrap64 ((l0.length : Int) + 1) : Int).toNat ≤ 70368744177664 then (dec_big_plus.l0 k l1 (List.replicate 0 0) 0 l0 (l0.length : Int) 0) else (none)) else (none)) = some r := h
 clear h
 by_cases c3 : 0 ≤ wrap64 ((l0.length : Int) + 1)
 ·rw [if_pos c3] at H
  have c3b0 := eq_true c3
  have c3b1 : decide (0 ≤ wrap64 ((l0.length : Int) + 1)) = true := decide_eq_true c3
  by_cases c4 : (wrap64 ((l0.length : Int) + 1) : Int).toNat ≤ 70368744177664
  ·rw [if_pos c4] at H
   have c4b0 := eq_true c4
   have c4b1 : decide ((wrap64 ((l0.length : Int) + 1) : Int).toNat ≤ 70368744177664) = true := decide_eq_true c4
   obtain ⟨y107, hy107⟩ : ∃ y_ : List Int, y_ = (List.replicate 0 0) := ⟨_, rfl⟩
   replace H : (dec_big_plus.l0 k l1 y107 0 l0 (l0.length : Int) 0) = some r := by first | (rw [hy107]; with_reducible exact H) | (have H2_ := (Option.bind_some _ _).symm.trans H; rw [hy107]; with_reducible exact H2_) | (have H2_ := (Option.bind_some _ _).symm.trans H; with_reducible exact H2_) | with_reducible exact H | (rw [hy107]; exact H) | exact H
   have Ny107 := am hy107
   clear hy107
   have H' := am H
   clear H
   go_enter Tryd.func34, Tryd.ntmps34
   go_wp2_with (first | ((with_reducible refine gate_dst (N := 19) rfl ?_); refine R_makeC (Kd.int .u32) _ 74 rfl (N := 19) rfl 64 _ _ rfl 0 (wrap64 ((l0.length : Int) + 1)) rfl rfl Tryd.underlying64 (.int .u32 0) 4 info74 rfl (by decide) (by omega) 0 (ok := fun _ => True) (okp := fun _ => True) rfl (fun _ hk => hk) trivial (by omega) pD (Nat.le_trans (Nat.mul_le_mul_right _ (pD : (wrap64 ((l0.length : Int) + 1)).toNat ≤ 70368744177664)) (by omega)) (Below.refl _ _) (Nat.le_refl _) ?_; intro v108 w5 ho6 hb hg_ hnew_; clear hg_ hnew_; (first | rw [← Ny107.out] at ho6 | (simp only [Int.reduceToNat] at ho6; rw [← Ny107.out] at ho6)); have HO109 := am (Kd.R_lower (Kd.R_newM (M := fun k_ => (w.heap.size ≤ k_)) ho6 (below_size pB) (fun k_ h_ => h_)) (below_size pB)); replace HB := am (below_step pB hb); clear hb ho6))
   go_loopg [5, 6, 22] k (fun kq v5 v6 v22 w' => ∃ (x5_1 : List Int) (x6_1 : Int) (x22_1 : Int), v6 = .int .u64 x6_1 ∧ v22 = .int .i64 x22_1 ∧ Aside0 (dec_big_plus.l0 kq l1 x5_1 x6_1 l0 (l0.length : Int) x22_1 = some r) ∧ Aside0 (kq ≤ k) ∧ Aside0 (Kd.R (Kd.int .u32) 74 w' w.heap.size (fun k_ => (w.heap.size ≤ k_)) v5 x5_1) ∧ Aside0 (Below w.heap.size w w'))
   case atStart => exact ⟨(y107), (0), (0), (by first | rfl | (simp; done) | (simp [*]; done)), (by first | rfl | (simp; done) | (simp [*]; done)), H', ⟨Nat.le_refl _⟩, ⟨by (with_reducible repeat (first | apply Kd.R_alloc | apply Kd.R_drewN | apply Kd.R_drew)); exact Kd.R_mono HO109.out (fun _ hk => hk.1)⟩, ⟨pB⟩⟩
   case round =>
    clear H'
    try clear c1
    try clear p2
    try clear c3
    try clear c3b0
    try clear c3b1
    try clear c4
    try clear c4b0
    try clear c4b1
    try clear p6
    obtain ⟨x5_1, x6_1, x22_1, rfl, rfl, HA, HK1, HO_5, HB⟩ := hrel
    cases gk with
    | zero => exact absurd HA.out (by simp [dec_big_plus.l0])
    | succ k1 =>
     have H := HA.out
     clear HA
     simp only [dec_big_plus.l0] at H
     by_cases c7 : x22_1 < (l0.length : Int)
     ·rw [if_pos c7] at H
      have c7b0 : decide (x22_1 < (l0.length : Int)) = true := decide_eq_true c7
      clear c7
      by_cases c8 : 0 ≤ x22_1
      ·rw [if_pos c8] at H
       have c8b0 : decide (0 ≤ x22_1) = true := decide_eq_true c8
       clear c8
       by_cases c9 : x22_1 < (l0.length : Int)
       ·rw [if_pos c9] at H
        have c9b0 : decide (x22_1 < (l0.length : Int)) = true := decide_eq_true c9
        clear c9
        by_cases c10 : x22_1 < (l1.length : Int)
        ·rw [if_pos c10] at H
         have c10b0 : decide (x22_1 < (l1.length : Int)) = true := decide_eq_true c10
         clear c10
         by_cases c11 : x5_1.length < 35184372088832
         ·rw [if_pos c11] at H
          have LMc11 := am c11
          clear c11
          obtain ⟨y112, hy112⟩ : ∃ y_ : List Int, y_ = (x5_1 ++ [(IntKind.u64.wrap ((IntKind.u64.wrap (x6_1 + (IntKind.u64.wrap (rd l0 x22_1)))) + (IntKind.u64.wrap (rd l1 x22_1)))) % 4294967296]) := ⟨_, rfl⟩
          replace H : (dec_big_plus.l0 k1 l1 y112 ((IntKind.u64.wrap ((IntKind.u64.wrap (x6_1 + (IntKind.u64.wrap (rd l0 x22_1)))) + (IntKind.u64.wrap (rd l1 x22_1)))) / 4294967296) l0 (l0.length : Int) (wrap64 (x22_1 + 1))) = some r := by first | (rw [hy112]; with_reducible exact H) | (have H2_ := (Option.bind_some _ _).symm.trans H; rw [hy112]; with_reducible exact H2_) | (have H2_ := (Option.bind_some _ _).symm.trans H; with_reducible exact H2_) | with_reducible exact H | (rw [hy112]; exact H) | exact H
          have Ny112 := am hy112
          clear hy112
          have H' := am H
          clear H
          have p110 : 0 ≤ (x22_1 : Int) := pD
          have q110 : x22_1 < (l0.length : Int) := pD
          obtain ⟨ad110, e110, hx110_0⟩ := Kd.at_int HR0.out x22_1 p110 q110
          cases e110
          replace hx110_0 := (HB.out.cell (World.block_lt_of_cell? w _ hx110_0)).trans hx110_0
          replace p110 := eq_true p110
          replace q110 := eq_true q110
          have p111 : 0 ≤ (x22_1 : Int) := pD
          have q111 : x22_1 < (l1.length : Int) := pD
          obtain ⟨ad111, e111, hx111_0⟩ := Kd.at_int HR1.out x22_1 p111 q111
          cases e111
          replace hx111_0 := (HB.out.cell (World.block_lt_of_cell? w _ hx111_0)).trans hx111_0
          replace p111 := eq_true p111
          replace q111 := eq_true q111
          go_wp2_with (first | ((with_reducible refine gate_builtin (b := .append) (xs := #[.tmp 42, .tmp 45]) rfl ?_); at_builtin; refine Kd.R_append (Kd.int .u32) (w0 := w) w.heap.size rfl (.tmp 42) (.tmp 45) 64 74 (.int .u32 0) 4 rfl Tryd.underlying64 info74 rfl (by decide) (by omega) u5 x5_1 ((IntKind.u64.wrap ((IntKind.u64.wrap (x6_1 + (IntKind.u64.wrap (rd l0 x22_1)))) + (IntKind.u64.wrap (rd l1 x22_1)))) % 4294967296) [.int .u32 ((IntKind.u64.wrap ((IntKind.u64.wrap (x6_1 + (IntKind.u64.wrap (rd l0 x22_1)))) + (IntKind.u64.wrap (rd l1 x22_1)))) % 4294967296)] (fun k_ => (w.heap.size ≤ k_)) (fun _ => False) rfl rfl ?aP (fun _ hk => hk.elim) ?aF ?aO ?aB ?aS ?aL ?_; (case aP => exact rfl); (case aB => exact pB); (case aF => exact (fun k_ hk => (Nat.le_trans (below_size pB) hk))); (case aO => exact (pR HO_5.out)); (case aS => exact (below_size pB)); (case aL => have := LMc11.out; omega); intro v113 w12 ho hb hg hat; rw [← Ny112.out] at ho; replace HB := am (hb); have HO114 := am (ho); clear HO_5; clear ho hb hg hat))
          go_roundg k1
          case measure => have := HK1.out; omega
          case rel => exact ⟨(y112), ((IntKind.u64.wrap ((IntKind.u64.wrap (x6_1 + (IntKind.u64.wrap (rd l0 x22_1)))) + (IntKind.u64.wrap (rd l1 x22_1)))) / 4294967296), (wrap64 (x22_1 + 1)), (by first | rfl | (simp; done) | (simp [*]; done)), (by first | rfl | (simp; done) | (simp [*]; done)), H', ⟨by have := HK1.out; omega⟩, ⟨by (with_reducible repeat (first | apply Kd.R_alloc | apply Kd.R_drewN | apply Kd.R_drew)); exact HO114.out⟩, ⟨pB⟩⟩
         ·rw [if_neg c11] at H
          exact absurd H (by simp)
        ·rw [if_neg c10] at H
         have c10b0 : decide (x22_1 < (l1.length : Int)) = false := decide_eq_false c10
         clear c10
         by_cases c13 : x5_1.length < 35184372088832
         ·rw [if_pos c13] at H
          have LMc13 := am c13
          clear c13
          obtain ⟨y115, hy115⟩ : ∃ y_ : List Int, y_ = (x5_1 ++ [(IntKind.u64.wrap (x6_1 + (IntKind.u64.wrap (rd l0 x22_1)))) % 4294967296]) := ⟨_, rfl⟩
          replace H : (dec_big_plus.l0 k1 l1 y115 ((IntKind.u64.wrap (x6_1 + (IntKind.u64.wrap (rd l0 x22_1)))) / 4294967296) l0 (l0.length : Int) (wrap64 (x22_1 + 1))) = some r := by first | (rw [hy115]; with_reducible exact H) | (have H2_ := (Option.bind_some _ _).symm.trans H; rw [hy115]; with_reducible exact H2_) | (have H2_ := (Option.bind_some _ _).symm.trans H; with_reducible exact H2_) | with_reducible exact H | (rw [hy115]; exact H) | exact H
          have Ny115 := am hy115
          clear hy115
          have H' := am H
          clear H
          have p110 : 0 ≤ (x22_1 : Int) := pD
          have q110 : x22_1 < (l0.length : Int) := pD
          obtain ⟨ad110, e110, hx110_0⟩ := Kd.at_int HR0.out x22_1 p110 q110
          cases e110
          replace hx110_0 := (HB.out.cell (World.block_lt_of_cell? w _ hx110_0)).trans hx110_0
          replace p110 := eq_true p110
          replace q110 := eq_true q110
          go_wp2_with (first | ((with_reducible refine gate_builtin (b := .append) (xs := #[.tmp 42, .tmp 45]) rfl ?_); at_builtin; refine Kd.R_append (Kd.int .u32) (w0 := w) w.heap.size rfl (.tmp 42) (.tmp 45) 64 74 (.int .u32 0) 4 rfl Tryd.underlying64 info74 rfl (by decide) (by omega) u5 x5_1 ((IntKind.u64.wrap (x6_1 + (IntKind.u64.wrap (rd l0 x22_1)))) % 4294967296) [.int .u32 ((IntKind.u64.wrap (x6_1 + (IntKind.u64.wrap (rd l0 x22_1)))) % 4294967296)] (fun k_ => (w.heap.size ≤ k_)) (fun _ => False) rfl rfl ?aP (fun _ hk => hk.elim) ?aF ?aO ?aB ?aS ?aL ?_; (case aP => exact rfl); (case aB => exact pB); (case aF => exact (fun k_ hk => (Nat.le_trans (below_size pB) hk))); (case aO => exact (pR HO_5.out)); (case aS => exact (below_size pB)); (case aL => have := LMc13.out; omega); intro v116 w14 ho hb hg hat; rw [← Ny115.out] at ho; replace HB := am (hb); have HO117 := am (ho); clear HO_5; clear ho hb hg hat))
          go_roundg k1
          case measure => have := HK1.out; omega
          case rel => exact ⟨(y115), ((IntKind.u64.wrap (x6_1 + (IntKind.u64.wrap (rd l0 x22_1)))) / 4294967296), (wrap64 (x22_1 + 1)), (by first | rfl | (simp; done) | (simp [*]; done)), (by first | rfl | (simp; done) | (simp [*]; done)), H', ⟨by have := HK1.out; omega⟩, ⟨by (with_reducible repeat (first | apply Kd.R_alloc | apply Kd.R_drewN | apply Kd.R_drew)); exact HO117.out⟩, ⟨pB⟩⟩
         ·rw [if_neg c13] at H
          exact absurd H (by simp)
       ·rw [if_neg c9] at H
        exact absurd H (by simp)
      ·rw [if_neg c8] at H
       exact absurd H (by simp)
     ·rw [if_neg c7] at H
      have c7b0 : decide (x22_1 < (l0.length : Int)) = false := decide_eq_false c7
      clear c7
      by_cases c15 : x5_1.length < 35184372088832
      ·rw [if_pos c15] at H
       have LMc15 := am c15
       clear c15
       obtain ⟨y118, hy118⟩ : ∃ y_ : List Int, y_ = (x5_1 ++ [(x6_1) % 4294967296]) := ⟨_, rfl⟩
       replace H : ((dec_big_trim.f k1 y118).bind fun t121 => (some t121)) = some r := by first | (rw [hy118]; with_reducible exact H) | (have H2_ := (Option.bind_some _ _).symm.trans H; rw [hy118]; with_reducible exact H2_) | (have H2_ := (Option.bind_some _ _).symm.trans H; with_reducible exact H2_) | with_reducible exact H | (rw [hy118]; exact H) | exact H
       have Ny118 := am hy118
       clear hy118
       replace H := Option.bind_eq_some_iff.mp H
       obtain ⟨t121, A160, H⟩ := H
       try dsimp only at H
       have A16 := am A160
       clear A160
       obtain rfl := Option.some.inj H
       go_wp2_with (first | ((with_reducible refine gate_builtin (b := .append) (xs := #[.tmp 50, .tmp 53]) rfl ?_); at_builtin; refine Kd.R_append (Kd.int .u32) (w0 := w) w.heap.size rfl (.tmp 50) (.tmp 53) 64 74 (.int .u32 0) 4 rfl Tryd.underlying64 info74 rfl (by decide) (by omega) u5 x5_1 ((x6_1) % 4294967296) [.int .u32 ((x6_1) % 4294967296)] (fun k_ => (w.heap.size ≤ k_)) (fun _ => False) rfl rfl ?aP (fun _ hk => hk.elim) ?aF ?aO ?aB ?aS ?aL ?_; (case aP => exact rfl); (case aB => exact pB); (case aF => exact (fun k_ hk => (Nat.le_trans (below_size pB) hk))); (case aO => exact (pR HO_5.out)); (case aS => exact (below_size pB)); (case aL => have := LMc15.out; omega); intro v119 w17 ho hb hg hat; rw [← Ny118.out] at ho; replace HB := am (hb); have HO120 := am (ho); clear HO_5; clear ho hb hg hat; obtain ⟨Ao18, co18, eo18⟩ := Kd.R_slice HO120.out; subst eo18) | ((with_reducible refine gate_callee (f := 64) rfl ?_); refine goesL_ (some 55) rfl rfl Tryd.func64 (by kernel_rfl) rfl #[.slice Ao18 y118.length co18] rfl pM ?_; (with_reducible refine (dec_big_trim.calls k1 (fun k_ => some k_ = (.slice Ao18 y118.length co18 : Value).ownBlock) _ _ y118 t121 _ ?side1 A16.out).mono ?_); (case side1 => exact Kd.R_V (Kd.R_tight rfl (HO120.out))); rintro e w19 ⟨v122, rfl, ho0, hb⟩; refine ⟨_, rfl, ?_⟩; have HO123 := am (Kd.V_lower (Kd.V_mono (ok' := fun k_ => (w.heap.size ≤ k_)) ho0 (fun k_ hk_ => Or.elim hk_ (fun hs_ => ((HO120.out).1 k_ hs_.symm)) (fun hn_ => (Nat.le_trans (below_size pB) hn_)))) (below_size pB)); replace HO120 := am (Kd.R_below (pR HO120.out) hb); replace HB := am (below_step pB hb); (try clear hb); (try clear ho0)))
       go_ret
       exact ⟨_, pE, by (with_reducible repeat (first | apply Kd.V_alloc | apply Kd.V_drewN | apply Kd.V_drew)); exact HO123.out, pB⟩
      ·rw [if_neg c15] at H
       exact absurd H (by simp)
  ·rw [if_neg c4] at H
   exact absurd H (by simp)
 ·rw [if_neg c3] at H
  exact absurd H (by simp)
theorem dec_big_plus.calls_lt (k : Nat) (A0 : Option Addr) (c0 : Nat) (l0 : List Int) (A1 : Option Addr) (c1 : Nat) (l1 : List Int) (r : List Int) (w : World) (hr0 : Kd.C (Kd.int .u32) w A0 l0.length l0) (hc0 : l0.length ≤ c0) (hr1 : Kd.C (Kd.int .u32) w A1 l1.length l1) (hc1 : l1.length ≤ c1) (hge : (l1.length : Int) < (l0.length : Int)) (h : dec_big_plus.fg k l0 l1 = some r) :
  Calls Tryd.prog 34 #[.slice A1 l1.length c1, .slice A0 l0.length c0] w fun e w' => ∃ v0_ : Value, e = .returned (v0_) ∧ Kd.V (Kd.int .u32) 74 w' w.heap.size (fun k_ => (w.heap.size ≤ k_)) v0_ r ∧ Below w.heap.size w w' := by
 have cgeb : decide ((l1.length : Int) < (l0.length : Int)) = true := decide_eq_true hge
 have HR0 := am hr0
 have HC0 := am hc0
 clear hr0 hc0
 have HR1 := am hr1
 have HC1 := am hc1
 clear hr1 hc1
 have HB := am (Below.refl w.heap.size w)
 have H : (if 0 ≤ wrap64 ((l0.length : Int) + 1) then (if (wrap64 ((l0.length : Int) + 1) : Int).toNat ≤ 70368744177664 then (dec_big_plus.l0 k l1 (List.replicate 0 0) 0 l0 (l0.length : Int) 0) else (none)) else (none)) = some r := h
 clear h
 by_cases c3 : 0 ≤ wrap64 ((l0.length : Int) + 1)
 ·rw [if_pos c3] at H
  have c3b0 := eq_true c3
  have c3b1 : decide (0 ≤ wrap64 ((l0.length : Int) + 1)) = true := decide_eq_true c3
  by_cases c4 : (wrap64 ((l0.length : Int) + 1) : Int).toNat ≤ 70368744177664
  ·rw [if_pos c4] at H
   have c4b0 := eq_true c4
   have c4b1 : decide ((wrap64 ((l0.length : Int) + 1) : Int).toNat ≤ 70368744177664) = true := decide_eq_true c4
   obtain ⟨y107, hy107⟩ : ∃ y_ : List Int, y_ = (List.replicate 0 0) := ⟨_, rfl⟩
   replace H : (dec_big_plus.l0 k l1 y107 0 l0 (l0.length : Int) 0) = some r := by first | (rw [hy107]; with_reducible exact H) | (have H2_ := (Option.bind_some _ _).symm.trans H; rw [hy107]; with_reducible exact H2_) | (have H2_ := (Option.bind_some _ _).symm.trans H; with_reducible exact H2_) | with_reducible exact H | (rw [hy107]; exact H) | exact H
   have Ny107 := am hy107
   clear hy107
   have H' := am H
   clear H
   go_enter Tryd.func34, Tryd.ntmps34
   go_wp2_with (first | ((with_reducible refine gate_dst (N := 19) rfl ?_); refine R_makeC (Kd.int .u32) _ 74 rfl (N := 19) rfl 64 _ _ rfl 0 (wrap64 ((l0.length : Int) + 1)) rfl rfl Tryd.underlying64 (.int .u32 0) 4 info74 rfl (by decide) (by omega) 0 (ok := fun _ => True) (okp := fun _ => True) rfl (fun _ hk => hk) trivial (by omega) pD (Nat.le_trans (Nat.mul_le_mul_right _ (pD : (wrap64 ((l0.length : Int) + 1)).toNat ≤ 70368744177664)) (by omega)) (Below.refl _ _) (Nat.le_refl _) ?_; intro v108 w5 ho6 hb hg_ hnew_; clear hg_ hnew_; (first | rw [← Ny107.out] at ho6 | (simp only [Int.reduceToNat] at ho6; rw [← Ny107.out] at ho6)); have HO109 := am (Kd.R_lower (Kd.R_newM (M := fun k_ => (w.heap.size ≤ k_)) ho6 (below_size pB) (fun k_ h_ => h_)) (below_size pB)); replace HB := am (below_step pB hb); clear hb ho6))
   go_loopg [5, 6, 22] k (fun kq v5 v6 v22 w' => ∃ (x5_1 : List Int) (x6_1 : Int) (x22_1 : Int), v6 = .int .u64 x6_1 ∧ v22 = .int .i64 x22_1 ∧ Aside0 (dec_big_plus.l0 kq l1 x5_1 x6_1 l0 (l0.length : Int) x22_1 = some r) ∧ Aside0 (kq ≤ k) ∧ Aside0 (Kd.R (Kd.int .u32) 74 w' w.heap.size (fun k_ => (w.heap.size ≤ k_)) v5 x5_1) ∧ Aside0 (Below w.heap.size w w'))
   case atStart => exact ⟨(y107), (0), (0), (by first | rfl | (simp; done) | (simp [*]; done)), (by first | rfl | (simp; done) | (simp [*]; done)), H', ⟨Nat.le_refl _⟩, ⟨by (with_reducible repeat (first | apply Kd.R_alloc | apply Kd.R_drewN | apply Kd.R_drew)); exact Kd.R_mono HO109.out (fun _ hk => hk.1)⟩, ⟨pB⟩⟩
   case round =>
    clear H'
    try clear c1
    try clear p2
    try clear c3
    try clear c3b0
    try clear c3b1
    try clear c4
    try clear c4b0
    try clear c4b1
    try clear p6
    obtain ⟨x5_1, x6_1, x22_1, rfl, rfl, HA, HK1, HO_5, HB⟩ := hrel
    cases gk with
    | zero => exact absurd HA.out (by simp [dec_big_plus.l0])
    | succ k1 =>
     have H := HA.out
     clear HA
     simp only [dec_big_plus.l0] at H
     by_cases c7 : x22_1 < (l0.length : Int)
     ·rw [if_pos c7] at H
      have c7b0 : decide (x22_1 < (l0.length : Int)) = true := decide_eq_true c7
      clear c7
      by_cases c8 : 0 ≤ x22_1
      ·rw [if_pos c8] at H
       have c8b0 : decide (0 ≤ x22_1) = true := decide_eq_true c8
       clear c8
       by_cases c9 : x22_1 < (l0.length : Int)
       ·rw [if_pos c9] at H
        have c9b0 : decide (x22_1 < (l0.length : Int)) = true := decide_eq_true c9
        clear c9
        by_cases c10 : x22_1 < (l1.length : Int)
        ·rw [if_pos c10] at H
         have c10b0 : decide (x22_1 < (l1.length : Int)) = true := decide_eq_true c10
         clear c10
         by_cases c11 : x5_1.length < 35184372088832
         ·rw [if_pos c11] at H
          have LMc11 := am c11
          clear c11
          obtain ⟨y112, hy112⟩ : ∃ y_ : List Int, y_ = (x5_1 ++ [(IntKind.u64.wrap ((IntKind.u64.wrap (x6_1 + (IntKind.u64.wrap (rd l0 x22_1)))) + (IntKind.u64.wrap (rd l1 x22_1)))) % 4294967296]) := ⟨_, rfl⟩
          replace H : (dec_big_plus.l0 k1 l1 y112 ((IntKind.u64.wrap ((IntKind.u64.wrap (x6_1 + (IntKind.u64.wrap (rd l0 x22_1)))) + (IntKind.u64.wrap (rd l1 x22_1)))) / 4294967296) l0 (l0.length : Int) (wrap64 (x22_1 + 1))) = some r := by first | (rw [hy112]; with_reducible exact H) | (have H2_ := (Option.bind_some _ _).symm.trans H; rw [hy112]; with_reducible exact H2_) | (have H2_ := (Option.bind_some _ _).symm.trans H; with_reducible exact H2_) | with_reducible exact H | (rw [hy112]; exact H) | exact H
          have Ny112 := am hy112
          clear hy112
          have H' := am H
          clear H
          have p110 : 0 ≤ (x22_1 : Int) := pD
          have q110 : x22_1 < (l0.length : Int) := pD
          obtain ⟨ad110, e110, hx110_0⟩ := Kd.at_int HR0.out x22_1 p110 q110
          cases e110
          replace hx110_0 := (HB.out.cell (World.block_lt_of_cell? w _ hx110_0)).trans hx110_0
          replace p110 := eq_true p110
          replace q110 := eq_true q110
          have p111 : 0 ≤ (x22_1 : Int) := pD
          have q111 : x22_1 < (l1.length : Int) := pD
          obtain ⟨ad111, e111, hx111_0⟩ := Kd.at_int HR1.out x22_1 p111 q111
          cases e111
          replace hx111_0 := (HB.out.cell (World.block_lt_of_cell? w _ hx111_0)).trans hx111_0
          replace p111 := eq_true p111
          replace q111 := eq_true q111
          go_wp2_with (first | ((with_reducible refine gate_builtin (b := .append) (xs := #[.tmp 42, .tmp 45]) rfl ?_); at_builtin; refine Kd.R_append (Kd.int .u32) (w0 := w) w.heap.size rfl (.tmp 42) (.tmp 45) 64 74 (.int .u32 0) 4 rfl Tryd.underlying64 info74 rfl (by decide) (by omega) u5 x5_1 ((IntKind.u64.wrap ((IntKind.u64.wrap (x6_1 + (IntKind.u64.wrap (rd l0 x22_1)))) + (IntKind.u64.wrap (rd l1 x22_1)))) % 4294967296) [.int .u32 ((IntKind.u64.wrap ((IntKind.u64.wrap (x6_1 + (IntKind.u64.wrap (rd l0 x22_1)))) + (IntKind.u64.wrap (rd l1 x22_1)))) % 4294967296)] (fun k_ => (w.heap.size ≤ k_)) (fun _ => False) rfl rfl ?aP (fun _ hk => hk.elim) ?aF ?aO ?aB ?aS ?aL ?_; (case aP => exact rfl); (case aB => exact pB); (case aF => exact (fun k_ hk => (Nat.le_trans (below_size pB) hk))); (case aO => exact (pR HO_5.out)); (case aS => exact (below_size pB)); (case aL => have := LMc11.out; omega); intro v113 w12 ho hb hg hat; rw [← Ny112.out] at ho; replace HB := am (hb); have HO114 := am (ho); clear HO_5; clear ho hb hg hat))
          go_roundg k1
          case measure => have := HK1.out; omega
          case rel => exact ⟨(y112), ((IntKind.u64.wrap ((IntKind.u64.wrap (x6_1 + (IntKind.u64.wrap (rd l0 x22_1)))) + (IntKind.u64.wrap (rd l1 x22_1)))) / 4294967296), (wrap64 (x22_1 + 1)), (by first | rfl | (simp; done) | (simp [*]; done)), (by first | rfl | (simp; done) | (simp [*]; done)), H', ⟨by have := HK1.out; omega⟩, ⟨by (with_reducible repeat (first | apply Kd.R_alloc | apply Kd.R_drewN | apply Kd.R_drew)); exact HO114.out⟩, ⟨pB⟩⟩
         ·rw [if_neg c11] at H
          exact absurd H (by simp)
        ·rw [if_neg c10] at H
         have c10b0 : decide (x22_1 < (l1.length : Int)) = false := decide_eq_false c10
         clear c10
         by_cases c13 : x5_1.length < 35184372088832
         ·rw [if_pos c13] at H
          have LMc13 := am c13
          clear c13
          obtain ⟨y115, hy115⟩ : ∃ y_ : List Int, y_ = (x5_1 ++ [(IntKind.u64.wrap (x6_1 + (IntKind.u64.wrap (rd l0 x22_1)))) % 4294967296]) := ⟨_, rfl⟩
          replace H : (dec_big_plus.l0 k1 l1 y115 ((IntKind.u64.wrap (x6_1 + (IntKind.u64.wrap (rd l0 x22_1)))) / 4294967296) l0 (l0.length : Int) (wrap64 (x22_1 + 1))) = some r := by first | (rw [hy115]; with_reducible exact H) | (have H2_ := (Option.bind_some _ _).symm.trans H; rw [hy115]; with_reducible exact H2_) | (have H2_ := (Option.bind_some _ _).symm.trans H; with_reducible exact H2_) | with_reducible exact H | (rw [hy115]; exact H) | exact H
          have Ny115 := am hy115
          clear hy115
          have H' := am H
          clear H
          have p110 : 0 ≤ (x22_1 : Int) := pD
          have q110 : x22_1 < (l0.length : Int) := pD
          obtain ⟨ad110, e110, hx110_0⟩ := Kd.at_int HR0.out x22_1 p110 q110
          cases e110
          replace hx110_0 := (HB.out.cell (World.block_lt_of_cell? w _ hx110_0)).trans hx110_0
          replace p110 := eq_true p110
          replace q110 := eq_true q110
          go_wp2_with (first | ((with_reducible refine gate_builtin (b := .append) (xs := #[.tmp 42, .tmp 45]) rfl ?_); at_builtin; refine Kd.R_append (Kd.int .u32) (w0 := w) w.heap.size rfl (.tmp 42) (.tmp 45) 64 74 (.int .u32 0) 4 rfl Tryd.underlying64 info74 rfl (by decide) (by omega) u5 x5_1 ((IntKind.u64.wrap (x6_1 + (IntKind.u64.wrap (rd l0 x22_1)))) % 4294967296) [.int .u32 ((IntKind.u64.wrap (x6_1 + (IntKind.u64.wrap (rd l0 x22_1)))) % 4294967296)] (fun k_ => (w.heap.size ≤ k_)) (fun _ => False) rfl rfl ?aP (fun _ hk => hk.elim) ?aF ?aO ?aB ?aS ?aL ?_; (case aP => exact rfl); (case aB => exact pB); (case aF => exact (fun k_ hk => (Nat.le_trans (below_size pB) hk))); (case aO => exact (pR HO_5.out)); (case aS => exact (below_size pB)); (case aL => have := LMc13.out; omega); intro v116 w14 ho hb hg hat; rw [← Ny115.out] at ho; replace HB := am (hb); have HO117 := am (ho); clear HO_5; clear ho hb hg hat))
          go_roundg k1
          case measure => have := HK1.out; omega
          case rel => exact ⟨(y115), ((IntKind.u64.wrap (x6_1 + (IntKind.u64.wrap (rd l0 x22_1)))) / 4294967296), (wrap64 (x22_1 + 1)), (by first | rfl | (simp; done) | (simp [*]; done)), (by first | rfl | (simp; done) | (simp [*]; done)), H', ⟨by have := HK1.out; omega⟩, ⟨by (with_reducible repeat (first | apply Kd.R_alloc | apply Kd.R_drewN | apply Kd.R_drew)); exact HO117.out⟩, ⟨pB⟩⟩
         ·rw [if_neg c13] at H
          exact absurd H (by simp)
       ·rw [if_neg c9] at H
        exact absurd H (by simp)
      ·rw [if_neg c8] at H
       exact absurd H (by simp)
     ·rw [if_neg c7] at H
      have c7b0 : decide (x22_1 < (l0.length : Int)) = false := decide_eq_false c7
      clear c7
      by_cases c15 : x5_1.length < 35184372088832
      ·rw [if_pos c15] at H
       have LMc15 := am c15
       clear c15
       obtain ⟨y118, hy118⟩ : ∃ y_ : List Int, y_ = (x5_1 ++ [(x6_1) % 4294967296]) := ⟨_, rfl⟩
       replace H : ((dec_big_trim.f k1 y118).bind fun t121 => (some t121)) = some r := by first | (rw [hy118]; with_reducible exact H) | (have H2_ := (Option.bind_some _ _).symm.trans H; rw [hy118]; with_reducible exact H2_) | (have H2_ := (Option.bind_some _ _).symm.trans H; with_reducible exact H2_) | with_reducible exact H | (rw [hy118]; exact H) | exact H
       have Ny118 := am hy118
       clear hy118
       replace H := Option.bind_eq_some_iff.mp H
       obtain ⟨t121, A160, H⟩ := H
       try dsimp only at H
       have A16 := am A160
       clear A160
       obtain rfl := Option.some.inj H
       go_wp2_with (first | ((with_reducible refine gate_builtin (b := .append) (xs := #[.tmp 50, .tmp 53]) rfl ?_); at_builtin; refine Kd.R_append (Kd.int .u32) (w0 := w) w.heap.size rfl (.tmp 50) (.tmp 53) 64 74 (.int .u32 0) 4 rfl Tryd.underlying64 info74 rfl (by decide) (by omega) u5 x5_1 ((x6_1) % 4294967296) [.int .u32 ((x6_1) % 4294967296)] (fun k_ => (w.heap.size ≤ k_)) (fun _ => False) rfl rfl ?aP (fun _ hk => hk.elim) ?aF ?aO ?aB ?aS ?aL ?_; (case aP => exact rfl); (case aB => exact pB); (case aF => exact (fun k_ hk => (Nat.le_trans (below_size pB) hk))); (case aO => exact (pR HO_5.out)); (case aS => exact (below_size pB)); (case aL => have := LMc15.out; omega); intro v119 w17 ho hb hg hat; rw [← Ny118.out] at ho; replace HB := am (hb); have HO120 := am (ho); clear HO_5; clear ho hb hg hat; obtain ⟨Ao18, co18, eo18⟩ := Kd.R_slice HO120.out; subst eo18) | ((with_reducible refine gate_callee (f := 64) rfl ?_); refine goesL_ (some 55) rfl rfl Tryd.func64 (by kernel_rfl) rfl #[.slice Ao18 y118.length co18] rfl pM ?_; (with_reducible refine (dec_big_trim.calls k1 (fun k_ => some k_ = (.slice Ao18 y118.length co18 : Value).ownBlock) _ _ y118 t121 _ ?side1 A16.out).mono ?_); (case side1 => exact Kd.R_V (Kd.R_tight rfl (HO120.out))); rintro e w19 ⟨v122, rfl, ho0, hb⟩; refine ⟨_, rfl, ?_⟩; have HO123 := am (Kd.V_lower (Kd.V_mono (ok' := fun k_ => (w.heap.size ≤ k_)) ho0 (fun k_ hk_ => Or.elim hk_ (fun hs_ => ((HO120.out).1 k_ hs_.symm)) (fun hn_ => (Nat.le_trans (below_size pB) hn_)))) (below_size pB)); replace HO120 := am (Kd.R_below (pR HO120.out) hb); replace HB := am (below_step pB hb); (try clear hb); (try clear ho0)))
       go_ret
       exact ⟨_, pE, by (with_reducible repeat (first | apply Kd.V_alloc | apply Kd.V_drewN | apply Kd.V_drew)); exact HO123.out, pB⟩
      ·rw [if_neg c15] at H
       exact absurd H (by simp)
  ·rw [if_neg c4] at H
   exact absurd H (by simp)
 ·rw [if_neg c3] at H
  exact absurd H (by simp)
def dec_big_plus.f (k : Nat) (l0 : List Int) (l1 : List Int) : Option (List Int) := if (l0.length : Int) < (l1.length : Int) then dec_big_plus.fg k l1 l0 else dec_big_plus.fg k l0 l1
theorem dec_big_plus.mono : ∀ a0 a1 k, LeO (dec_big_plus.f k a0 a1) (dec_big_plus.f (k + 1) a0 a1) := by
 intro a0 a1 k
 unfold dec_big_plus.f
 by_cases h : (a0.length : Int) < (a1.length : Int)
 ·rw [if_pos h, if_pos h]; exact dec_big_plus.mono_g _ _ _
 ·rw [if_neg h, if_neg h]; exact dec_big_plus.mono_g _ _ _
theorem dec_big_plus.calls (k : Nat) (A0 : Option Addr) (c0 : Nat) (l0 : List Int) (A1 : Option Addr) (c1 : Nat) (l1 : List Int) (r : List Int) (w : World) (hr0 : Kd.C (Kd.int .u32) w A0 l0.length l0) (hc0 : l0.length ≤ c0) (hr1 : Kd.C (Kd.int .u32) w A1 l1.length l1) (hc1 : l1.length ≤ c1) (h : dec_big_plus.f k l0 l1 = some r) :
  Calls Tryd.prog 34 #[.slice A0 l0.length c0, .slice A1 l1.length c1] w fun e w' => ∃ v0_ : Value, e = .returned (v0_) ∧ Kd.V (Kd.int .u32) 74 w' w.heap.size (fun k_ => (w.heap.size ≤ k_)) v0_ r ∧ Below w.heap.size w w' := by
 unfold dec_big_plus.f at h
 by_cases hc : (l0.length : Int) < (l1.length : Int)
 ·rw [if_pos hc] at h; exact dec_big_plus.calls_lt k A1 c1 l1 A0 c0 l0 r w hr1 hc1 hr0 hc0 hc h
 ·rw [if_neg hc] at h; exact dec_big_plus.calls_ge k A0 c0 l0 A1 c1 l1 r w hr0 hc0 hr1 hc1 hc h
mutual
def minstrelref01_Kind.j0 : Nat → Int → Int → Bool → Option (Int)
 | 0, _, _, _ => none
 | k + 1, x3, x4, x15 => if x15 = true then (some 4) else (if x3 = 2047 then (some 3) else (if x3 = 0 then (minstrelref01_Kind.j1 k x3 (x4 == 0)) else (minstrelref01_Kind.j1 k x3 false)))
def minstrelref01_Kind.j1 : Nat → Int → Bool → Option (Int)
 | 0, _, _ => none
 | k + 1, x3, x23 => if x23 = true then (some 0) else (if x3 = 0 then (some 1) else (some 2))
end
def minstrelref01_Kind.f (k : Nat) (a0 : Int) : Option (Int) := if (Go.bits .and .u64 (a0 / 4503599627370496) 2047) = 2047 then (minstrelref01_Kind.j0 k (Go.bits .and .u64 (a0 / 4503599627370496) 2047) (Go.bits .and .u64 a0 4503599627370495) ((Go.bits .and .u64 a0 4503599627370495) != 0)) else (minstrelref01_Kind.j0 k (Go.bits .and .u64 (a0 / 4503599627370496) 2047) (Go.bits .and .u64 a0 4503599627370495) false)
set_option maxHeartbeats 8000000 in
set_option maxRecDepth 100000 in
theorem minstrelref01_Kind.calls (k : Nat) (a0 : Int) (r : Int) (w : World) (h : minstrelref01_Kind.f k a0 = some r) :
  Calls Tryd.prog 6 #[.int .u64 a0] w fun e w' => e = .returned (.int .i64 r) ∧ Drawn0 w w' := by
 have H : (if (Go.bits .and .u64 (a0 / 4503599627370496) 2047) = 2047 then (minstrelref01_Kind.j0 k (Go.bits .and .u64 (a0 / 4503599627370496) 2047) (Go.bits .and .u64 a0 4503599627370495) ((Go.bits .and .u64 a0 4503599627370495) != 0)) else (minstrelref01_Kind.j0 k (Go.bits .and .u64 (a0 / 4503599627370496) 2047) (Go.bits .and .u64 a0 4503599627370495) false)) = some r := h
 clear h
 have HC2 := am H
 clear H
 go_enter Tryd.func6, Tryd.ntmps6
 go_upto_region 2 with (fail)
 go_cut [15] (fun v15 wc => ∃ (kq : Nat) (x15_1 : Bool), v15 = .bool x15_1 ∧ Aside0 (minstrelref01_Kind.j0 kq (Go.bits .and .u64 (a0 / 4503599627370496) 2047) (Go.bits .and .u64 a0 4503599627370495) x15_1 = some r) ∧ Aside0 (kq ≤ k) ∧ Drawn0 w wc)
 case first =>
  have H := HC2.out
  clear HC2
  by_cases c3 : (Go.bits .and .u64 (a0 / 4503599627370496) 2047) = 2047
  ·rw [if_pos c3] at H
   have c3b0 : ((Go.bits .and .u64 (a0 / 4503599627370496) 2047) == 2047) = true := beq_iff_eq.mpr c3
   have c3b1 : ((Go.bits .and .u64 (a0 / 4503599627370496) 2047) != 2047) = false := bne_eq_false_iff_eq.mpr c3
   clear c3
   (first | rw [c3b0] | (simp only [i64_w, i32_w]; rw [c3b0]) | rw [c3b1] | (simp only [i64_w, i32_w]; rw [c3b1]) | skip)
   have H' := am H
   clear H
   go_wp2
   go_meet
   case rel => exact ⟨_, (((Go.bits .and .u64 a0 4503599627370495) != 0)), (by first | rfl | (simp; done) | (simp [*]; done)), H', ⟨by first | omega | exact Nat.le_refl _⟩, by repeat (first | exact Drawn0.refl _ | apply Drawn0.step)⟩
  ·rw [if_neg c3] at H
   have c3b0 : ((Go.bits .and .u64 (a0 / 4503599627370496) 2047) == 2047) = false := beq_eq_false_iff_ne.mpr c3
   have c3b1 : ((Go.bits .and .u64 (a0 / 4503599627370496) 2047) != 2047) = true := bne_iff_ne.mpr c3
   (first | rw [c3b0] | (simp only [i64_w, i32_w]; rw [c3b0]) | rw [c3b1] | (simp only [i64_w, i32_w]; rw [c3b1]) | skip)
   have H' := am H
   clear H
   go_wp2
   go_meet
   case rel => exact ⟨_, (false), (by first | rfl | (simp; done) | (simp [*]; done)), H', ⟨by first | omega | exact Nat.le_refl _⟩, by repeat (first | exact Drawn0.refl _ | apply Drawn0.step)⟩
 case rest =>
  clear HC2
  try clear p2
  try clear c3
  try clear c3b0
  try clear c3b1
  obtain ⟨kq, x15_1, rfl, HA, HJ1, ⟨mc1, rfl⟩⟩ := hcut
  cases kq with
  | zero => exact absurd HA.out (by simp [minstrelref01_Kind.j0])
  | succ kj1 =>
   have H := HA.out
   clear HA
   simp only [minstrelref01_Kind.j0] at H
   by_cases c4 : x15_1 = true
   ·subst c4
    rw [if_pos rfl] at H
    obtain rfl := Option.some.inj H
    go_wp2
    go_ret
    exact ⟨by first | rfl | (simp; done) | (simp [*]; done), by repeat (first | exact Drawn0.refl _ | apply Drawn0.step)⟩
   ·replace c4 := Bool.eq_false_iff.mpr c4
    subst c4
    rw [if_neg (show ¬ (false = true) by decide)] at H
    by_cases c5 : (Go.bits .and .u64 (a0 / 4503599627370496) 2047) = 2047
    ·rw [if_pos c5] at H
     have c5b0 : ((Go.bits .and .u64 (a0 / 4503599627370496) 2047) == 2047) = true := beq_iff_eq.mpr c5
     have c5b1 : ((Go.bits .and .u64 (a0 / 4503599627370496) 2047) != 2047) = false := bne_eq_false_iff_eq.mpr c5
     clear c5
     obtain rfl := Option.some.inj H
     go_wp2
     go_ret
     exact ⟨by first | rfl | (simp; done) | (simp [*]; done), by repeat (first | exact Drawn0.refl _ | apply Drawn0.step)⟩
    ·rw [if_neg c5] at H
     have c5b0 : ((Go.bits .and .u64 (a0 / 4503599627370496) 2047) == 2047) = false := beq_eq_false_iff_ne.mpr c5
     have c5b1 : ((Go.bits .and .u64 (a0 / 4503599627370496) 2047) != 2047) = true := bne_iff_ne.mpr c5
     have HC6 := am H
     clear H
     go_upto_region 6 with (fail)
     go_cut [23] (fun v23 wc => ∃ (kq : Nat) (x23_5 : Bool), v23 = .bool x23_5 ∧ Aside0 (minstrelref01_Kind.j1 kq (Go.bits .and .u64 (a0 / 4503599627370496) 2047) x23_5 = some r) ∧ Aside0 (kq ≤ kj1) ∧ Drawn0 w wc)
     case first =>
      have H := HC6.out
      clear HC6
      by_cases c7 : (Go.bits .and .u64 (a0 / 4503599627370496) 2047) = 0
      ·rw [if_pos c7] at H
       have c7b0 : ((Go.bits .and .u64 (a0 / 4503599627370496) 2047) == 0) = true := beq_iff_eq.mpr c7
       have c7b1 : ((Go.bits .and .u64 (a0 / 4503599627370496) 2047) != 0) = false := bne_eq_false_iff_eq.mpr c7
       clear c7
       (first | rw [c7b0] | (simp only [i64_w, i32_w]; rw [c7b0]) | rw [c7b1] | (simp only [i64_w, i32_w]; rw [c7b1]) | skip)
       have H' := am H
       clear H
       go_wp2
       go_meet
       case rel => exact ⟨_, (((Go.bits .and .u64 a0 4503599627370495) == 0)), (by first | rfl | (simp; done) | (simp [*]; done)), H', ⟨by have := HJ1.out; first | omega | exact Nat.le_refl _⟩, by repeat (first | exact Drawn0.refl _ | apply Drawn0.step)⟩
      ·rw [if_neg c7] at H
       have c7b0 : ((Go.bits .and .u64 (a0 / 4503599627370496) 2047) == 0) = false := beq_eq_false_iff_ne.mpr c7
       have c7b1 : ((Go.bits .and .u64 (a0 / 4503599627370496) 2047) != 0) = true := bne_iff_ne.mpr c7
       (first | rw [c7b0] | (simp only [i64_w, i32_w]; rw [c7b0]) | rw [c7b1] | (simp only [i64_w, i32_w]; rw [c7b1]) | skip)
       have H' := am H
       clear H
       go_wp2
       go_meet
       case rel => exact ⟨_, (false), (by first | rfl | (simp; done) | (simp [*]; done)), H', ⟨by have := HJ1.out; first | omega | exact Nat.le_refl _⟩, by repeat (first | exact Drawn0.refl _ | apply Drawn0.step)⟩
     case rest =>
      clear HC6
      try clear c1
      try clear p2
      try clear c3
      try clear c3b0
      try clear c3b1
      try clear c4
      try clear c5
      try clear c5b0
      try clear c5b1
      try clear c6
      try clear c7
      try clear c7b0
      try clear c7b1
      try clear p2
      obtain ⟨kq, x23_5, rfl, HA, HJ5, ⟨mc5, rfl⟩⟩ := hcut
      cases kq with
      | zero => exact absurd HA.out (by simp [minstrelref01_Kind.j1])
      | succ kj5 =>
       have H := HA.out
       clear HA
       simp only [minstrelref01_Kind.j1] at H
       by_cases c8 : x23_5 = true
       ·subst c8
        rw [if_pos rfl] at H
        obtain rfl := Option.some.inj H
        go_wp2
        go_ret
        exact ⟨by first | rfl | (simp; done) | (simp [*]; done), by repeat (first | exact Drawn0.refl _ | apply Drawn0.step)⟩
       ·replace c8 := Bool.eq_false_iff.mpr c8
        subst c8
        rw [if_neg (show ¬ (false = true) by decide)] at H
        by_cases c9 : (Go.bits .and .u64 (a0 / 4503599627370496) 2047) = 0
        ·rw [if_pos c9] at H
         have c9b0 : ((Go.bits .and .u64 (a0 / 4503599627370496) 2047) == 0) = true := beq_iff_eq.mpr c9
         have c9b1 : ((Go.bits .and .u64 (a0 / 4503599627370496) 2047) != 0) = false := bne_eq_false_iff_eq.mpr c9
         clear c9
         obtain rfl := Option.some.inj H
         go_wp2
         go_ret
         exact ⟨by first | rfl | (simp; done) | (simp [*]; done), by repeat (first | exact Drawn0.refl _ | apply Drawn0.step)⟩
        ·rw [if_neg c9] at H
         have c9b0 : ((Go.bits .and .u64 (a0 / 4503599627370496) 2047) == 0) = false := beq_eq_false_iff_ne.mpr c9
         have c9b1 : ((Go.bits .and .u64 (a0 / 4503599627370496) 2047) != 0) = true := bne_iff_ne.mpr c9
         obtain rfl := Option.some.inj H
         go_wp2
         go_ret
         exact ⟨by first | rfl | (simp; done) | (simp [*]; done), by repeat (first | exact Drawn0.refl _ | apply Drawn0.step)⟩
def flo_Kind.f (a0 : Int) : Option (Int) := (flo_kind.f a0).bind fun t124 => (some t124)
set_option maxHeartbeats 8000000 in
set_option maxRecDepth 100000 in
theorem flo_Kind.calls (a0 : Int) (r : Int) (w : World) (h : flo_Kind.f a0 = some r) :
  Calls Tryd.prog 14 #[.int .u64 a0] w fun e w' => e = .returned (.int .i64 r) ∧ Drawn0 w w' := by
 have H : ((flo_kind.f a0).bind fun t124 => (some t124)) = some r := h
 clear h
 replace H := Option.bind_eq_some_iff.mp H
 obtain ⟨t124, A20, H⟩ := H
 try dsimp only at H
 have A2 := am A20
 clear A20
 obtain rfl := Option.some.inj H
 go_enter Tryd.func14, Tryd.ntmps14
 go_wp2_with (first | ((with_reducible refine gate_callee (f := 29) rfl ?_); refine goesL_ (some 4) rfl rfl Tryd.func29 (by kernel_rfl) rfl #[.int .u64 a0] rfl pM ?_; (with_reducible refine (flo_kind.calls a0 t124 _ A2.out).mono ?_); rintro e w' ⟨rfl, ⟨nd, rfl⟩⟩; refine ⟨_, rfl, ?_⟩))
 go_ret
 exact ⟨by first | rfl | (simp; done) | (simp [*]; done), by repeat (first | exact Drawn0.refl _ | apply Drawn0.step)⟩
end Go.Proofs.YtflcanpajgpghaaDoor.Pr
end
section
namespace Go.Proofs.YtflcanpajgpghaaDoor.Pr
open Go.RowKit Go.Proofs.YtflcanpajgpghaaDoorW.PrintWords Go.Proofs.YtflcanpajgpghaaDoorW.PrintLast Go.Proofs.YtflcanpajgpghaaDoorW.PrintMore
attribute [local go_sem] max2_int min2_int max_two min_two max_three min_three max_four min_four
def dec_laid.j0 : Nat → ByteArray → Int → Bool → Option (ByteArray)
 | 0, _, _, _ => none
 | k + 1, x0, x1, x6 => if x6 = true then (if x1 < 0 then (if (x0.size : Int) > 1 then (if 0 ≤ 1 then (if 1 ≤ (x0.size : Int) then (if (x0.extract 0 1).size + 1 ≤ 9223372036854775807 then (if ((x0.extract 0 1) ++ (⟨#[46]⟩ : ByteArray)).size + (x0.extract 1 x0.size).size ≤ 9223372036854775807 then (if (((x0.extract 0 1) ++ (⟨#[46]⟩ : ByteArray)) ++ (x0.extract 1 x0.size)).size + 2 ≤ 9223372036854775807 then ((strconv_Itoa.f (wrap64 (-x1))).bind fun t125 => (if ((((x0.extract 0 1) ++ (⟨#[46]⟩ : ByteArray)) ++ (x0.extract 1 x0.size)) ++ (⟨#[101, 45]⟩ : ByteArray)).size + t125.size ≤ 9223372036854775807 then (some (((((x0.extract 0 1) ++ (⟨#[46]⟩ : ByteArray)) ++ (x0.extract 1 x0.size)) ++ (⟨#[101, 45]⟩ : ByteArray)) ++ t125)) else (none))) else (none)) else (none)) else (none)) else (none)) else (none)) else (if x0.size + 2 ≤ 9223372036854775807 then ((strconv_Itoa.f (wrap64 (-x1))).bind fun t126 => (if (x0 ++ (⟨#[101, 45]⟩ : ByteArray)).size + t126.size ≤ 9223372036854775807 then (some ((x0 ++ (⟨#[101, 45]⟩ : ByteArray)) ++ t126)) else (none))) else (none))) else (if (x0.size : Int) > 1 then (if 0 ≤ 1 then (if 1 ≤ (x0.size : Int) then (if (x0.extract 0 1).size + 1 ≤ 9223372036854775807 then (if ((x0.extract 0 1) ++ (⟨#[46]⟩ : ByteArray)).size + (x0.extract 1 x0.size).size ≤ 9223372036854775807 then (if (((x0.extract 0 1) ++ (⟨#[46]⟩ : ByteArray)) ++ (x0.extract 1 x0.size)).size + 2 ≤ 9223372036854775807 then ((strconv_Itoa.f x1).bind fun t127 => (if ((((x0.extract 0 1) ++ (⟨#[46]⟩ : ByteArray)) ++ (x0.extract 1 x0.size)) ++ (⟨#[101, 43]⟩ : ByteArray)).size + t127.size ≤ 9223372036854775807 then (some (((((x0.extract 0 1) ++ (⟨#[46]⟩ : ByteArray)) ++ (x0.extract 1 x0.size)) ++ (⟨#[101, 43]⟩ : ByteArray)) ++ t127)) else (none))) else (none)) else (none)) else (none)) else (none)) else (none)) else (if x0.size + 2 ≤ 9223372036854775807 then ((strconv_Itoa.f x1).bind fun t128 => (if (x0 ++ (⟨#[101, 43]⟩ : ByteArray)).size + t128.size ≤ 9223372036854775807 then (some ((x0 ++ (⟨#[101, 43]⟩ : ByteArray)) ++ t128)) else (none))) else (none)))) else (if x1 < 0 then ((strings_Repeat.f (⟨#[48]⟩ : ByteArray) (wrap64 ((wrap64 (-x1)) - 1))).bind fun t129 => (if 2 + t129.size ≤ 9223372036854775807 then (if ((⟨#[48, 46]⟩ : ByteArray) ++ t129).size + x0.size ≤ 9223372036854775807 then (some (((⟨#[48, 46]⟩ : ByteArray) ++ t129) ++ x0)) else (none)) else (none))) else (if (wrap64 (x1 + 1)) ≥ (x0.size : Int) then ((strings_Repeat.f (⟨#[48]⟩ : ByteArray) (wrap64 ((wrap64 (x1 + 1)) - (x0.size : Int)))).bind fun t130 => (if x0.size + t130.size ≤ 9223372036854775807 then (some (x0 ++ t130)) else (none))) else (if 0 ≤ (wrap64 (x1 + 1)) then (if (wrap64 (x1 + 1)) ≤ (x0.size : Int) then (if (x0.extract 0 ((wrap64 (x1 + 1)) : Int).toNat).size + 1 ≤ 9223372036854775807 then (if ((x0.extract 0 ((wrap64 (x1 + 1)) : Int).toNat) ++ (⟨#[46]⟩ : ByteArray)).size + (x0.extract ((wrap64 (x1 + 1)) : Int).toNat x0.size).size ≤ 9223372036854775807 then (some (((x0.extract 0 ((wrap64 (x1 + 1)) : Int).toNat) ++ (⟨#[46]⟩ : ByteArray)) ++ (x0.extract ((wrap64 (x1 + 1)) : Int).toNat x0.size))) else (none)) else (none)) else (none)) else (none))))
def dec_laid.f (k : Nat) (a0 : ByteArray) (a1 : Int) : Option (ByteArray) := if a1 < (-7) then (dec_laid.j0 k a0 a1 true) else (dec_laid.j0 k a0 a1 (decide (a1 > 20)))
theorem dec_laid.mono_l : ∀ k, (∀ y0 y1 y2, LeO (dec_laid.j0 k y0 y1 y2) (dec_laid.j0 (k + 1) y0 y1 y2))
 | 0 => fun _ _ _ r h => by simp [dec_laid.j0] at h
 | k + 1 => by
  have ih0 := dec_laid.mono_l k
  ·intro y0 y1 y2
   unfold dec_laid.j0
   repeat' first
   | (with_reducible exact ih0 _ _ _)
   | (with_reducible exact LeO.refl _)
   | (with_reducible exact LeO.none _)
   | (with_reducible refine LeO.ite ?_ ?_)
   | (with_reducible refine LeO.bind ?_ (fun _ => ?_))
   | exact ih0 _ _ _
   | exact LeO.none _
   | refine LeO.ite ?_ ?_
   | refine LeO.bind ?_ (fun _ => ?_)
theorem dec_laid.mono : ∀ a0 a1 k, LeO (dec_laid.f k a0 a1) (dec_laid.f (k + 1) a0 a1) := by
 intro a0 a1 k
 have ih0 := dec_laid.mono_l k
 unfold dec_laid.f
 repeat' first
   | (with_reducible exact ih0 _ _ _)
   | (with_reducible exact LeO.refl _)
   | (with_reducible exact LeO.none _)
   | (with_reducible refine LeO.ite ?_ ?_)
   | (with_reducible refine LeO.bind ?_ (fun _ => ?_))
   | exact ih0 _ _ _
   | exact LeO.none _
   | refine LeO.ite ?_ ?_
   | refine LeO.bind ?_ (fun _ => ?_)
set_option maxHeartbeats 8000000 in
set_option maxRecDepth 100000 in
theorem dec_laid.calls (k : Nat) (a0 : ByteArray) (a1 : Int) (r : ByteArray) (w : World) (hG : PowLaid w) (h : dec_laid.f k a0 a1 = some r) :
  Calls Tryd.prog 15 #[.string a0, .int .i64 a1] w fun e w' => e = .returned (.string r) ∧ Below w.heap.size w w' := by
 have HG := am hG
 clear hG
 have HB := am (Below.refl w.heap.size w)
 have H : (if a1 < (-7) then (dec_laid.j0 k a0 a1 true) else (dec_laid.j0 k a0 a1 (decide (a1 > 20)))) = some r := h
 clear h
 have HC3 := am H
 clear H
 go_enter Tryd.func15, Tryd.ntmps15
 go_upto_region 1 with (fail)
 repeat (go_quiet (fail); go_upto_region 1 with (fail))
 go_cut [6] (fun v6 wc => ∃ (kq : Nat) (x6_2 : Bool), v6 = .bool x6_2 ∧ Aside0 (dec_laid.j0 kq a0 a1 x6_2 = some r) ∧ Aside0 (kq ≤ k) ∧ Aside0 (Below w.heap.size w wc))
 case first =>
  have H := HC3.out
  clear HC3
  by_cases c4 : a1 < (-7)
  ·rw [if_pos c4] at H
   have c4b0 : decide (a1 < (-7)) = true := decide_eq_true c4
   clear c4
   (first | rw [c4b0] | (simp only [i64_w, i32_w]; rw [c4b0]) | rw [c4b1] | (simp only [i64_w, i32_w]; rw [c4b1]) | skip)
   have H' := am H
   clear H
   go_wp2
   repeat (go_quiet (fail); try go_wp2)
   go_meet
   case rel => exact ⟨_, (true), (by first | rfl | (simp; done) | (simp [*]; done)), H', ⟨by first | omega | exact Nat.le_refl _⟩, ⟨pB⟩⟩
  ·rw [if_neg c4] at H
   have c4b0 : decide (a1 < (-7)) = false := decide_eq_false c4
   clear c4
   (first | rw [c4b0] | (simp only [i64_w, i32_w]; rw [c4b0]) | rw [c4b1] | (simp only [i64_w, i32_w]; rw [c4b1]) | skip)
   have H' := am H
   clear H
   go_wp2
   repeat (go_quiet (fail); try go_wp2)
   go_meet
   case rel => exact ⟨_, (decide (a1 > 20)), (by first | rfl | (simp; done) | (simp [*]; done)), H', ⟨by first | omega | exact Nat.le_refl _⟩, ⟨pB⟩⟩
 case rest =>
  clear HC3
  try clear c1
  try clear p2
  try clear c4
  try clear c4b0
  try clear c4b1
  obtain ⟨kq, x6_2, rfl, HA, HJ2, HB⟩ := hcut
  cases kq with
  | zero => exact absurd HA.out (by simp [dec_laid.j0])
  | succ kj2 =>
   have H := HA.out
   clear HA
   simp only [dec_laid.j0] at H
   by_cases c5 : x6_2 = true
   ·subst c5
    rw [if_pos rfl] at H
    by_cases c6 : a1 < 0
    ·rw [if_pos c6] at H
     have c6b0 : decide (a1 < 0) = true := decide_eq_true c6
     clear c6
     by_cases c7 : (a0.size : Int) > 1
     ·rw [if_pos c7] at H
      have c7b0 : decide (1 < (a0.size : Int)) = true := decide_eq_true c7
      have c7b1 : decide (1 < a0.size) = true := decide_eq_true (by omega)
      clear c7
      by_cases c8 : 0 ≤ 1
      ·rw [if_pos c8] at H
       have c8b0 := eq_true c8
       have c8b1 : decide (0 ≤ 1) = true := decide_eq_true c8
       clear c8
       by_cases c9 : 1 ≤ (a0.size : Int)
       ·rw [if_pos c9] at H
        have c9b0 := eq_true c9
        have c9b1 : decide (1 ≤ (a0.size : Int)) = true := decide_eq_true c9
        clear c9
        obtain ⟨ji10, hji10⟩ : ∃ j_ : ByteArray, (a0.extract 0 1) = j_ := ⟨_, rfl⟩
        replace H : (if (ji10).size + 1 ≤ 9223372036854775807 then (if ((ji10) ++ (⟨#[46]⟩ : ByteArray)).size + (a0.extract 1 a0.size).size ≤ 9223372036854775807 then (if (((ji10) ++ (⟨#[46]⟩ : ByteArray)) ++ (a0.extract 1 a0.size)).size + 2 ≤ 9223372036854775807 then ((strconv_Itoa.f (wrap64 (-a1))).bind fun t125 => (if ((((ji10) ++ (⟨#[46]⟩ : ByteArray)) ++ (a0.extract 1 a0.size)) ++ (⟨#[101, 45]⟩ : ByteArray)).size + t125.size ≤ 9223372036854775807 then (some (((((ji10) ++ (⟨#[46]⟩ : ByteArray)) ++ (a0.extract 1 a0.size)) ++ (⟨#[101, 45]⟩ : ByteArray)) ++ t125)) else (none))) else (none)) else (none)) else (none)) = some r := by first | (rw [hji10] at H; exact H) | (simp only [hji10] at H ⊢; exact H) | exact H
        by_cases c11 : (ji10).size + 1 ≤ 9223372036854775807
        ·rw [if_pos c11] at H
         have c11b0 := eq_true c11
         have c11b1 : decide ((ji10).size + 1 ≤ 9223372036854775807) = true := decide_eq_true c11
         try have c11b2 : (9223372036854775807 < (ji10).size + 1) = False := eq_false (Nat.not_lt.2 c11)
         have c12b0 := eq_true (pD : 1 ≤ (a0.size : Int))
         obtain ⟨ji13, hji13⟩ : ∃ j_ : ByteArray, (a0.extract 1 a0.size) = j_ := ⟨_, rfl⟩
         replace H : (if ((ji10) ++ (⟨#[46]⟩ : ByteArray)).size + (ji13).size ≤ 9223372036854775807 then (if (((ji10) ++ (⟨#[46]⟩ : ByteArray)) ++ (ji13)).size + 2 ≤ 9223372036854775807 then ((strconv_Itoa.f (wrap64 (-a1))).bind fun t125 => (if ((((ji10) ++ (⟨#[46]⟩ : ByteArray)) ++ (ji13)) ++ (⟨#[101, 45]⟩ : ByteArray)).size + t125.size ≤ 9223372036854775807 then (some (((((ji10) ++ (⟨#[46]⟩ : ByteArray)) ++ (ji13)) ++ (⟨#[101, 45]⟩ : ByteArray)) ++ t125)) else (none))) else (none)) else (none)) = some r := by first | (rw [hji13] at H; exact H) | (simp only [hji13] at H ⊢; exact H) | exact H
         by_cases c14 : ((ji10) ++ (⟨#[46]⟩ : ByteArray)).size + (ji13).size ≤ 9223372036854775807
         ·rw [if_pos c14] at H
          have c14b0 := eq_true c14
          have c14b1 : decide (((ji10) ++ (⟨#[46]⟩ : ByteArray)).size + (ji13).size ≤ 9223372036854775807) = true := decide_eq_true c14
          try have c14b2 : (9223372036854775807 < ((ji10) ++ (⟨#[46]⟩ : ByteArray)).size + (ji13).size) = False := eq_false (Nat.not_lt.2 c14)
          try have c14b3 : (9223372036854775807 < ji10.size + 1 + ji13.size) = False := by have h_ := c14b2; simp only [ByteArray.size_append] at h_; exact h_
          by_cases c15 : (((ji10) ++ (⟨#[46]⟩ : ByteArray)) ++ (ji13)).size + 2 ≤ 9223372036854775807
          ·rw [if_pos c15] at H
           have c15b0 := eq_true c15
           have c15b1 : decide ((((ji10) ++ (⟨#[46]⟩ : ByteArray)) ++ (ji13)).size + 2 ≤ 9223372036854775807) = true := decide_eq_true c15
           try have c15b2 : (9223372036854775807 < (((ji10) ++ (⟨#[46]⟩ : ByteArray)) ++ (ji13)).size + 2) = False := eq_false (Nat.not_lt.2 c15)
           try have c15b3 : (9223372036854775807 < ji10.size + 1 + ji13.size + 2) = False := by have h_ := c15b2; simp only [ByteArray.size_append] at h_; exact h_
           replace H := Option.bind_eq_some_iff.mp H
           obtain ⟨t125, A160, H⟩ := H
           try dsimp only at H
           have A16 := am A160
           clear A160
           by_cases c17 : ((((ji10) ++ (⟨#[46]⟩ : ByteArray)) ++ (ji13)) ++ (⟨#[101, 45]⟩ : ByteArray)).size + t125.size ≤ 9223372036854775807
           ·rw [if_pos c17] at H
            have c17b0 := eq_true c17
            have c17b1 : decide (((((ji10) ++ (⟨#[46]⟩ : ByteArray)) ++ (ji13)) ++ (⟨#[101, 45]⟩ : ByteArray)).size + t125.size ≤ 9223372036854775807) = true := decide_eq_true c17
            try have c17b2 : (9223372036854775807 < ((((ji10) ++ (⟨#[46]⟩ : ByteArray)) ++ (ji13)) ++ (⟨#[101, 45]⟩ : ByteArray)).size + t125.size) = False := eq_false (Nat.not_lt.2 c17)
            try have c17b3 : (9223372036854775807 < ji10.size + 1 + ji13.size + 2 + t125.size) = False := by have h_ := c17b2; simp only [ByteArray.size_append] at h_; exact h_
            obtain rfl := Option.some.inj H
            go_wp2_with (first | (go_at_call 30; (with_reducible refine (strconv_Itoa.calls (wrap64 (-a1)) t125 _ ?side1 A16.out).mono ?_); (case side1 => exact pG); rintro e w18 ⟨rfl, hb⟩; replace HB := am (below_step pB hb); (try clear hb)))
            repeat (go_quiet (first | (go_at_call 30; (with_reducible refine (strconv_Itoa.calls (wrap64 (-a1)) t125 _ ?side1 A16.out).mono ?_); (case side1 => exact pG); rintro e w18 ⟨rfl, hb⟩; replace HB := am (below_step pB hb); (try clear hb))); try go_wp2_with (first | (go_at_call 30; (with_reducible refine (strconv_Itoa.calls (wrap64 (-a1)) t125 _ ?side1 A16.out).mono ?_); (case side1 => exact pG); rintro e w18 ⟨rfl, hb⟩; replace HB := am (below_step pB hb); (try clear hb))))
            go_ret
            exact ⟨by first | rfl | (simp [errW_none, errW_some] <;> rfl) | (simp only [← hji10, ← hji13]; first | rfl | (simp [errW_none, errW_some] <;> rfl)) | (simp [*, errW_none, errW_some] <;> rfl), pB⟩
           ·rw [if_neg c17] at H
            exact absurd H (by simp)
          ·rw [if_neg c15] at H
           exact absurd H (by simp)
         ·rw [if_neg c14] at H
          exact absurd H (by simp)
        ·rw [if_neg c11] at H
         exact absurd H (by simp)
       ·rw [if_neg c9] at H
        exact absurd H (by simp)
      ·rw [if_neg c8] at H
       exact absurd H (by simp)
     ·rw [if_neg c7] at H
      have c7b0 : decide (1 < (a0.size : Int)) = false := decide_eq_false c7
      have c7b1 : decide (1 < a0.size) = false := decide_eq_false (by omega)
      clear c7
      by_cases c19 : a0.size + 2 ≤ 9223372036854775807
      ·rw [if_pos c19] at H
       have c19b0 := eq_true c19
       have c19b1 : decide (a0.size + 2 ≤ 9223372036854775807) = true := decide_eq_true c19
       try have c19b2 : (9223372036854775807 < a0.size + 2) = False := eq_false (Nat.not_lt.2 c19)
       replace H := Option.bind_eq_some_iff.mp H
       obtain ⟨t126, A200, H⟩ := H
       try dsimp only at H
       have A20 := am A200
       clear A200
       by_cases c21 : (a0 ++ (⟨#[101, 45]⟩ : ByteArray)).size + t126.size ≤ 9223372036854775807
       ·rw [if_pos c21] at H
        have c21b0 := eq_true c21
        have c21b1 : decide ((a0 ++ (⟨#[101, 45]⟩ : ByteArray)).size + t126.size ≤ 9223372036854775807) = true := decide_eq_true c21
        try have c21b2 : (9223372036854775807 < (a0 ++ (⟨#[101, 45]⟩ : ByteArray)).size + t126.size) = False := eq_false (Nat.not_lt.2 c21)
        try have c21b3 : (9223372036854775807 < a0.size + 2 + t126.size) = False := by have h_ := c21b2; simp only [ByteArray.size_append] at h_; exact h_
        obtain rfl := Option.some.inj H
        go_wp2_with (first | (go_at_call 30; (with_reducible refine (strconv_Itoa.calls (wrap64 (-a1)) t126 _ ?side1 A20.out).mono ?_); (case side1 => exact pG); rintro e w22 ⟨rfl, hb⟩; replace HB := am (below_step pB hb); (try clear hb)))
        repeat (go_quiet (first | (go_at_call 30; (with_reducible refine (strconv_Itoa.calls (wrap64 (-a1)) t126 _ ?side1 A20.out).mono ?_); (case side1 => exact pG); rintro e w22 ⟨rfl, hb⟩; replace HB := am (below_step pB hb); (try clear hb))); try go_wp2_with (first | (go_at_call 30; (with_reducible refine (strconv_Itoa.calls (wrap64 (-a1)) t126 _ ?side1 A20.out).mono ?_); (case side1 => exact pG); rintro e w22 ⟨rfl, hb⟩; replace HB := am (below_step pB hb); (try clear hb))))
        go_ret
        exact ⟨pE, pB⟩
       ·rw [if_neg c21] at H
        exact absurd H (by simp)
      ·rw [if_neg c19] at H
       exact absurd H (by simp)
    ·rw [if_neg c6] at H
     have c6b0 : decide (a1 < 0) = false := decide_eq_false c6
     clear c6
     by_cases c23 : (a0.size : Int) > 1
     ·rw [if_pos c23] at H
      have c23b0 : decide (1 < (a0.size : Int)) = true := decide_eq_true c23
      have c23b1 : decide (1 < a0.size) = true := decide_eq_true (by omega)
      clear c23
      by_cases c24 : 0 ≤ 1
      ·rw [if_pos c24] at H
       have c24b0 := eq_true c24
       have c24b1 : decide (0 ≤ 1) = true := decide_eq_true c24
       clear c24
       by_cases c25 : 1 ≤ (a0.size : Int)
       ·rw [if_pos c25] at H
        have c25b0 := eq_true c25
        have c25b1 : decide (1 ≤ (a0.size : Int)) = true := decide_eq_true c25
        clear c25
        obtain ⟨ji26, hji26⟩ : ∃ j_ : ByteArray, (a0.extract 0 1) = j_ := ⟨_, rfl⟩
        replace H : (if (ji26).size + 1 ≤ 9223372036854775807 then (if ((ji26) ++ (⟨#[46]⟩ : ByteArray)).size + (a0.extract 1 a0.size).size ≤ 9223372036854775807 then (if (((ji26) ++ (⟨#[46]⟩ : ByteArray)) ++ (a0.extract 1 a0.size)).size + 2 ≤ 9223372036854775807 then ((strconv_Itoa.f a1).bind fun t127 => (if ((((ji26) ++ (⟨#[46]⟩ : ByteArray)) ++ (a0.extract 1 a0.size)) ++ (⟨#[101, 43]⟩ : ByteArray)).size + t127.size ≤ 9223372036854775807 then (some (((((ji26) ++ (⟨#[46]⟩ : ByteArray)) ++ (a0.extract 1 a0.size)) ++ (⟨#[101, 43]⟩ : ByteArray)) ++ t127)) else (none))) else (none)) else (none)) else (none)) = some r := by first | (rw [hji26] at H; exact H) | (simp only [hji26] at H ⊢; exact H) | exact H
        by_cases c27 : (ji26).size + 1 ≤ 9223372036854775807
        ·rw [if_pos c27] at H
         have c27b0 := eq_true c27
         have c27b1 : decide ((ji26).size + 1 ≤ 9223372036854775807) = true := decide_eq_true c27
         try have c27b2 : (9223372036854775807 < (ji26).size + 1) = False := eq_false (Nat.not_lt.2 c27)
         have c28b0 := eq_true (pD : 1 ≤ (a0.size : Int))
         obtain ⟨ji29, hji29⟩ : ∃ j_ : ByteArray, (a0.extract 1 a0.size) = j_ := ⟨_, rfl⟩
         replace H : (if ((ji26) ++ (⟨#[46]⟩ : ByteArray)).size + (ji29).size ≤ 9223372036854775807 then (if (((ji26) ++ (⟨#[46]⟩ : ByteArray)) ++ (ji29)).size + 2 ≤ 9223372036854775807 then ((strconv_Itoa.f a1).bind fun t127 => (if ((((ji26) ++ (⟨#[46]⟩ : ByteArray)) ++ (ji29)) ++ (⟨#[101, 43]⟩ : ByteArray)).size + t127.size ≤ 9223372036854775807 then (some (((((ji26) ++ (⟨#[46]⟩ : ByteArray)) ++ (ji29)) ++ (⟨#[101, 43]⟩ : ByteArray)) ++ t127)) else (none))) else (none)) else (none)) = some r := by first | (rw [hji29] at H; exact H) | (simp only [hji29] at H ⊢; exact H) | exact H
         by_cases c30 : ((ji26) ++ (⟨#[46]⟩ : ByteArray)).size + (ji29).size ≤ 9223372036854775807
         ·rw [if_pos c30] at H
          have c30b0 := eq_true c30
          have c30b1 : decide (((ji26) ++ (⟨#[46]⟩ : ByteArray)).size + (ji29).size ≤ 9223372036854775807) = true := decide_eq_true c30
          try have c30b2 : (9223372036854775807 < ((ji26) ++ (⟨#[46]⟩ : ByteArray)).size + (ji29).size) = False := eq_false (Nat.not_lt.2 c30)
          try have c30b3 : (9223372036854775807 < ji26.size + 1 + ji29.size) = False := by have h_ := c30b2; simp only [ByteArray.size_append] at h_; exact h_
          by_cases c31 : (((ji26) ++ (⟨#[46]⟩ : ByteArray)) ++ (ji29)).size + 2 ≤ 9223372036854775807
          ·rw [if_pos c31] at H
           have c31b0 := eq_true c31
           have c31b1 : decide ((((ji26) ++ (⟨#[46]⟩ : ByteArray)) ++ (ji29)).size + 2 ≤ 9223372036854775807) = true := decide_eq_true c31
           try have c31b2 : (9223372036854775807 < (((ji26) ++ (⟨#[46]⟩ : ByteArray)) ++ (ji29)).size + 2) = False := eq_false (Nat.not_lt.2 c31)
           try have c31b3 : (9223372036854775807 < ji26.size + 1 + ji29.size + 2) = False := by have h_ := c31b2; simp only [ByteArray.size_append] at h_; exact h_
           replace H := Option.bind_eq_some_iff.mp H
           obtain ⟨t127, A320, H⟩ := H
           try dsimp only at H
           have A32 := am A320
           clear A320
           by_cases c33 : ((((ji26) ++ (⟨#[46]⟩ : ByteArray)) ++ (ji29)) ++ (⟨#[101, 43]⟩ : ByteArray)).size + t127.size ≤ 9223372036854775807
           ·rw [if_pos c33] at H
            have c33b0 := eq_true c33
            have c33b1 : decide (((((ji26) ++ (⟨#[46]⟩ : ByteArray)) ++ (ji29)) ++ (⟨#[101, 43]⟩ : ByteArray)).size + t127.size ≤ 9223372036854775807) = true := decide_eq_true c33
            try have c33b2 : (9223372036854775807 < ((((ji26) ++ (⟨#[46]⟩ : ByteArray)) ++ (ji29)) ++ (⟨#[101, 43]⟩ : ByteArray)).size + t127.size) = False := eq_false (Nat.not_lt.2 c33)
            try have c33b3 : (9223372036854775807 < ji26.size + 1 + ji29.size + 2 + t127.size) = False := by have h_ := c33b2; simp only [ByteArray.size_append] at h_; exact h_
            obtain rfl := Option.some.inj H
            go_wp2_with (first | (go_at_call 30; (with_reducible refine (strconv_Itoa.calls a1 t127 _ ?side1 A32.out).mono ?_); (case side1 => exact pG); rintro e w34 ⟨rfl, hb⟩; replace HB := am (below_step pB hb); (try clear hb)))
            repeat (go_quiet (first | (go_at_call 30; (with_reducible refine (strconv_Itoa.calls a1 t127 _ ?side1 A32.out).mono ?_); (case side1 => exact pG); rintro e w34 ⟨rfl, hb⟩; replace HB := am (below_step pB hb); (try clear hb))); try go_wp2_with (first | (go_at_call 30; (with_reducible refine (strconv_Itoa.calls a1 t127 _ ?side1 A32.out).mono ?_); (case side1 => exact pG); rintro e w34 ⟨rfl, hb⟩; replace HB := am (below_step pB hb); (try clear hb))))
            go_ret
            exact ⟨by first | rfl | (simp [errW_none, errW_some] <;> rfl) | (simp only [← hji26, ← hji29]; first | rfl | (simp [errW_none, errW_some] <;> rfl)) | (simp [*, errW_none, errW_some] <;> rfl), pB⟩
           ·rw [if_neg c33] at H
            exact absurd H (by simp)
          ·rw [if_neg c31] at H
           exact absurd H (by simp)
         ·rw [if_neg c30] at H
          exact absurd H (by simp)
        ·rw [if_neg c27] at H
         exact absurd H (by simp)
       ·rw [if_neg c25] at H
        exact absurd H (by simp)
      ·rw [if_neg c24] at H
       exact absurd H (by simp)
     ·rw [if_neg c23] at H
      have c23b0 : decide (1 < (a0.size : Int)) = false := decide_eq_false c23
      have c23b1 : decide (1 < a0.size) = false := decide_eq_false (by omega)
      clear c23
      by_cases c35 : a0.size + 2 ≤ 9223372036854775807
      ·rw [if_pos c35] at H
       have c35b0 := eq_true c35
       have c35b1 : decide (a0.size + 2 ≤ 9223372036854775807) = true := decide_eq_true c35
       try have c35b2 : (9223372036854775807 < a0.size + 2) = False := eq_false (Nat.not_lt.2 c35)
       replace H := Option.bind_eq_some_iff.mp H
       obtain ⟨t128, A360, H⟩ := H
       try dsimp only at H
       have A36 := am A360
       clear A360
       by_cases c37 : (a0 ++ (⟨#[101, 43]⟩ : ByteArray)).size + t128.size ≤ 9223372036854775807
       ·rw [if_pos c37] at H
        have c37b0 := eq_true c37
        have c37b1 : decide ((a0 ++ (⟨#[101, 43]⟩ : ByteArray)).size + t128.size ≤ 9223372036854775807) = true := decide_eq_true c37
        try have c37b2 : (9223372036854775807 < (a0 ++ (⟨#[101, 43]⟩ : ByteArray)).size + t128.size) = False := eq_false (Nat.not_lt.2 c37)
        try have c37b3 : (9223372036854775807 < a0.size + 2 + t128.size) = False := by have h_ := c37b2; simp only [ByteArray.size_append] at h_; exact h_
        obtain rfl := Option.some.inj H
        go_wp2_with (first | (go_at_call 30; (with_reducible refine (strconv_Itoa.calls a1 t128 _ ?side1 A36.out).mono ?_); (case side1 => exact pG); rintro e w38 ⟨rfl, hb⟩; replace HB := am (below_step pB hb); (try clear hb)))
        repeat (go_quiet (first | (go_at_call 30; (with_reducible refine (strconv_Itoa.calls a1 t128 _ ?side1 A36.out).mono ?_); (case side1 => exact pG); rintro e w38 ⟨rfl, hb⟩; replace HB := am (below_step pB hb); (try clear hb))); try go_wp2_with (first | (go_at_call 30; (with_reducible refine (strconv_Itoa.calls a1 t128 _ ?side1 A36.out).mono ?_); (case side1 => exact pG); rintro e w38 ⟨rfl, hb⟩; replace HB := am (below_step pB hb); (try clear hb))))
        go_ret
        exact ⟨pE, pB⟩
       ·rw [if_neg c37] at H
        exact absurd H (by simp)
      ·rw [if_neg c35] at H
       exact absurd H (by simp)
   ·replace c5 := Bool.eq_false_iff.mpr c5
    subst c5
    rw [if_neg (show ¬ (false = true) by decide)] at H
    by_cases c39 : a1 < 0
    ·rw [if_pos c39] at H
     have c39b0 : decide (a1 < 0) = true := decide_eq_true c39
     clear c39
     replace H := Option.bind_eq_some_iff.mp H
     obtain ⟨t129, A400, H⟩ := H
     try dsimp only at H
     have A40 := am A400
     clear A400
     by_cases c41 : 2 + t129.size ≤ 9223372036854775807
     ·rw [if_pos c41] at H
      have c41b0 := eq_true c41
      have c41b1 : decide (2 + t129.size ≤ 9223372036854775807) = true := decide_eq_true c41
      try have c41b2 : (9223372036854775807 < 2 + t129.size) = False := eq_false (Nat.not_lt.2 c41)
      by_cases c42 : ((⟨#[48, 46]⟩ : ByteArray) ++ t129).size + a0.size ≤ 9223372036854775807
      ·rw [if_pos c42] at H
       have c42b0 := eq_true c42
       have c42b1 : decide (((⟨#[48, 46]⟩ : ByteArray) ++ t129).size + a0.size ≤ 9223372036854775807) = true := decide_eq_true c42
       try have c42b2 : (9223372036854775807 < ((⟨#[48, 46]⟩ : ByteArray) ++ t129).size + a0.size) = False := eq_false (Nat.not_lt.2 c42)
       try have c42b3 : (9223372036854775807 < 2 + t129.size + a0.size) = False := by have h_ := c42b2; simp only [ByteArray.size_append] at h_; exact h_
       obtain rfl := Option.some.inj H
       go_wp2_with (first | (go_at_call 31; (with_reducible refine (strings_Repeat.calls (⟨#[48]⟩ : ByteArray) (wrap64 ((wrap64 (-a1)) - 1)) t129 _ A40.out).mono ?_); rintro e w43 ⟨rfl, hb⟩; replace HB := am (below_step pB hb); (try clear hb)))
       repeat (go_quiet (first | (go_at_call 31; (with_reducible refine (strings_Repeat.calls (⟨#[48]⟩ : ByteArray) (wrap64 ((wrap64 (-a1)) - 1)) t129 _ A40.out).mono ?_); rintro e w43 ⟨rfl, hb⟩; replace HB := am (below_step pB hb); (try clear hb))); try go_wp2_with (first | (go_at_call 31; (with_reducible refine (strings_Repeat.calls (⟨#[48]⟩ : ByteArray) (wrap64 ((wrap64 (-a1)) - 1)) t129 _ A40.out).mono ?_); rintro e w43 ⟨rfl, hb⟩; replace HB := am (below_step pB hb); (try clear hb))))
       go_ret
       exact ⟨pE, pB⟩
      ·rw [if_neg c42] at H
       exact absurd H (by simp)
     ·rw [if_neg c41] at H
      exact absurd H (by simp)
    ·rw [if_neg c39] at H
     have c39b0 : decide (a1 < 0) = false := decide_eq_false c39
     clear c39
     by_cases c44 : (wrap64 (a1 + 1)) ≥ (a0.size : Int)
     ·rw [if_pos c44] at H
      have c44b0 : decide ((a0.size : Int) ≤ (wrap64 (a1 + 1))) = true := decide_eq_true c44
      clear c44
      replace H := Option.bind_eq_some_iff.mp H
      obtain ⟨t130, A450, H⟩ := H
      try dsimp only at H
      have A45 := am A450
      clear A450
      by_cases c46 : a0.size + t130.size ≤ 9223372036854775807
      ·rw [if_pos c46] at H
       have c46b0 := eq_true c46
       have c46b1 : decide (a0.size + t130.size ≤ 9223372036854775807) = true := decide_eq_true c46
       try have c46b2 : (9223372036854775807 < a0.size + t130.size) = False := eq_false (Nat.not_lt.2 c46)
       obtain rfl := Option.some.inj H
       go_wp2_with (first | (go_at_call 31; (with_reducible refine (strings_Repeat.calls (⟨#[48]⟩ : ByteArray) (wrap64 ((wrap64 (a1 + 1)) - (a0.size : Int))) t130 _ A45.out).mono ?_); rintro e w47 ⟨rfl, hb⟩; replace HB := am (below_step pB hb); (try clear hb)))
       repeat (go_quiet (first | (go_at_call 31; (with_reducible refine (strings_Repeat.calls (⟨#[48]⟩ : ByteArray) (wrap64 ((wrap64 (a1 + 1)) - (a0.size : Int))) t130 _ A45.out).mono ?_); rintro e w47 ⟨rfl, hb⟩; replace HB := am (below_step pB hb); (try clear hb))); try go_wp2_with (first | (go_at_call 31; (with_reducible refine (strings_Repeat.calls (⟨#[48]⟩ : ByteArray) (wrap64 ((wrap64 (a1 + 1)) - (a0.size : Int))) t130 _ A45.out).mono ?_); rintro e w47 ⟨rfl, hb⟩; replace HB := am (below_step pB hb); (try clear hb))))
       go_ret
       exact ⟨pE, pB⟩
      ·rw [if_neg c46] at H
       exact absurd H (by simp)
     ·rw [if_neg c44] at H
      have c44b0 : decide ((a0.size : Int) ≤ (wrap64 (a1 + 1))) = false := decide_eq_false c44
      clear c44
      obtain ⟨ji48, hji48⟩ : ∃ j_ : Int, (wrap64 (a1 + 1)) = j_ := ⟨_, rfl⟩
      replace H : (if 0 ≤ (ji48) then (if (ji48) ≤ (a0.size : Int) then (if (a0.extract 0 ((ji48) : Int).toNat).size + 1 ≤ 9223372036854775807 then (if ((a0.extract 0 ((ji48) : Int).toNat) ++ (⟨#[46]⟩ : ByteArray)).size + (a0.extract ((ji48) : Int).toNat a0.size).size ≤ 9223372036854775807 then (some (((a0.extract 0 ((ji48) : Int).toNat) ++ (⟨#[46]⟩ : ByteArray)) ++ (a0.extract ((ji48) : Int).toNat a0.size))) else (none)) else (none)) else (none)) else (none)) = some r := by first | (rw [hji48] at H; exact H) | (simp only [hji48] at H ⊢; exact H)
      (try rw [hji48] at c44b0)
      have hji48w : (IntKind.i64.wrap (a1 + 1)) = ji48 := (i64_w _).trans hji48
      by_cases c49 : 0 ≤ (ji48)
      ·rw [if_pos c49] at H
       have c49b0 := eq_true c49
       have c49b1 : decide (0 ≤ (ji48)) = true := decide_eq_true c49
       clear c49
       by_cases c50 : (ji48) ≤ (a0.size : Int)
       ·rw [if_pos c50] at H
        have c50b0 := eq_true c50
        have c50b1 : decide ((ji48) ≤ (a0.size : Int)) = true := decide_eq_true c50
        clear c50
        obtain ⟨ji51, hji51⟩ : ∃ j_ : ByteArray, (a0.extract 0 ((ji48) : Int).toNat) = j_ := ⟨_, rfl⟩
        replace H : (if (ji51).size + 1 ≤ 9223372036854775807 then (if ((ji51) ++ (⟨#[46]⟩ : ByteArray)).size + (a0.extract ((ji48) : Int).toNat a0.size).size ≤ 9223372036854775807 then (some (((ji51) ++ (⟨#[46]⟩ : ByteArray)) ++ (a0.extract ((ji48) : Int).toNat a0.size))) else (none)) else (none)) = some r := by first | (rw [hji51] at H; exact H) | (simp only [hji51] at H ⊢; exact H) | exact H
        by_cases c52 : (ji51).size + 1 ≤ 9223372036854775807
        ·rw [if_pos c52] at H
         have c52b0 := eq_true c52
         have c52b1 : decide ((ji51).size + 1 ≤ 9223372036854775807) = true := decide_eq_true c52
         try have c52b2 : (9223372036854775807 < (ji51).size + 1) = False := eq_false (Nat.not_lt.2 c52)
         have c53b0 := eq_true (pD : 0 ≤ (ji48))
         have c54b0 := eq_true (pD : (ji48) ≤ (a0.size : Int))
         obtain ⟨ji55, hji55⟩ : ∃ j_ : ByteArray, (a0.extract ((ji48) : Int).toNat a0.size) = j_ := ⟨_, rfl⟩
         replace H : (if ((ji51) ++ (⟨#[46]⟩ : ByteArray)).size + (ji55).size ≤ 9223372036854775807 then (some (((ji51) ++ (⟨#[46]⟩ : ByteArray)) ++ (ji55))) else (none)) = some r := by first | (rw [hji55] at H; exact H) | (simp only [hji55] at H ⊢; exact H) | exact H
         by_cases c56 : ((ji51) ++ (⟨#[46]⟩ : ByteArray)).size + (ji55).size ≤ 9223372036854775807
         ·rw [if_pos c56] at H
          have c56b0 := eq_true c56
          have c56b1 : decide (((ji51) ++ (⟨#[46]⟩ : ByteArray)).size + (ji55).size ≤ 9223372036854775807) = true := decide_eq_true c56
          try have c56b2 : (9223372036854775807 < ((ji51) ++ (⟨#[46]⟩ : ByteArray)).size + (ji55).size) = False := eq_false (Nat.not_lt.2 c56)
          try have c56b3 : (9223372036854775807 < ji51.size + 1 + ji55.size) = False := by have h_ := c56b2; simp only [ByteArray.size_append] at h_; exact h_
          obtain rfl := Option.some.inj H
          go_wp2
          repeat (go_quiet (fail); try go_wp2)
          go_ret
          exact ⟨by first | rfl | (simp [errW_none, errW_some] <;> rfl) | (simp only [← hji48, ← hji51, ← hji55]; first | rfl | (simp [errW_none, errW_some] <;> rfl)) | (simp [*, errW_none, errW_some] <;> rfl), pB⟩
         ·rw [if_neg c56] at H
          exact absurd H (by simp)
        ·rw [if_neg c52] at H
         exact absurd H (by simp)
       ·rw [if_neg c50] at H
        exact absurd H (by simp)
      ·rw [if_neg c49] at H
       exact absurd H (by simp)
def dec_big_times.l0 : Nat → Int → List Int → Int → List Int → Int → Int → Option (List Int)
 | 0, _, _, _, _, _, _ => none
 | k + 1, x1, x7, x8, x17, x18, x19 => if x19 < x18 then (if 0 ≤ x19 then (if x19 < (x17.length : Int) then (if x7.length < 35184372088832 then (dec_big_times.l0 k x1 (x7 ++ [(IntKind.u64.wrap (x8 + (IntKind.u64.wrap ((IntKind.u64.wrap (rd x17 x19)) * (IntKind.u64.wrap (x1)))))) % 4294967296]) ((IntKind.u64.wrap (x8 + (IntKind.u64.wrap ((IntKind.u64.wrap (rd x17 x19)) * (IntKind.u64.wrap (x1)))))) / 4294967296) x17 x18 (wrap64 (x19 + 1))) else (none)) else (none)) else (none)) else (if x7.length < 35184372088832 then ((dec_big_trim.f k (x7 ++ [(x8) % 4294967296])).bind fun t141 => (some t141)) else (none))
def dec_big_times.f (k : Nat) (l0 : List Int) (a1 : Int) (a2 : Int) : Option (List Int) := if 0 ≤ wrap64 ((l0.length : Int) + 1) then (if (wrap64 ((l0.length : Int) + 1) : Int).toNat ≤ 70368744177664 then (dec_big_times.l0 k a1 (List.replicate 0 0) (IntKind.u64.wrap (a2)) l0 (l0.length : Int) 0) else (none)) else (none)
theorem dec_big_times.mono_l : ∀ k, (∀ y0 y1 y2 y3 y4 y5, LeO (dec_big_times.l0 k y0 y1 y2 y3 y4 y5) (dec_big_times.l0 (k + 1) y0 y1 y2 y3 y4 y5))
 | 0 => fun _ _ _ _ _ _ r h => by simp [dec_big_times.l0] at h
 | k + 1 => by
  have ih0 := dec_big_times.mono_l k
  ·intro y0 y1 y2 y3 y4 y5
   unfold dec_big_times.l0
   repeat' first
   | (with_reducible exact ih0 _ _ _ _ _ _)
   | (with_reducible exact dec_big_trim.mono _ _)
   | (with_reducible exact LeO.refl _)
   | (with_reducible exact LeO.none _)
   | (with_reducible refine LeO.ite ?_ ?_)
   | (with_reducible refine LeO.bind ?_ (fun _ => ?_))
   | exact ih0 _ _ _ _ _ _
   | exact dec_big_trim.mono _ _
   | exact LeO.none _
   | refine LeO.ite ?_ ?_
   | refine LeO.bind ?_ (fun _ => ?_)
theorem dec_big_times.mono : ∀ a0 a1 a2 k, LeO (dec_big_times.f k a0 a1 a2) (dec_big_times.f (k + 1) a0 a1 a2) := by
 intro a0 a1 a2 k
 have ih0 := dec_big_times.mono_l k
 unfold dec_big_times.f
 repeat' first
   | (with_reducible exact ih0 _ _ _ _ _ _)
   | (with_reducible exact dec_big_trim.mono _ _)
   | (with_reducible exact LeO.refl _)
   | (with_reducible exact LeO.none _)
   | (with_reducible refine LeO.ite ?_ ?_)
   | (with_reducible refine LeO.bind ?_ (fun _ => ?_))
   | exact ih0 _ _ _ _ _ _
   | exact dec_big_trim.mono _ _
   | exact LeO.none _
   | refine LeO.ite ?_ ?_
   | refine LeO.bind ?_ (fun _ => ?_)
set_option maxHeartbeats 8000000 in
set_option maxRecDepth 100000 in
theorem dec_big_times.calls (k : Nat) (A0 : Option Addr) (c0 : Nat) (l0 : List Int) (a1 : Int) (a2 : Int) (r : List Int) (w : World) (hr0 : Kd.C (Kd.int .u32) w A0 l0.length l0) (hc0 : l0.length ≤ c0) (h : dec_big_times.f k l0 a1 a2 = some r) :
  Calls Tryd.prog 38 #[.slice A0 l0.length c0, .int .u32 a1, .int .u32 a2] w fun e w' => ∃ v0_ : Value, e = .returned (v0_) ∧ Kd.V (Kd.int .u32) 74 w' w.heap.size (fun k_ => (w.heap.size ≤ k_)) v0_ r ∧ Below w.heap.size w w' := by
 have HR0 := am hr0
 have HC0 := am hc0
 clear hr0 hc0
 have HB := am (Below.refl w.heap.size w)
 have H : (if 0 ≤ wrap64 ((l0.length : Int) + 1) then (if (wrap64 ((l0.length : Int) + 1) : Int).toNat ≤ 70368744177664 then (dec_big_times.l0 k a1 (List.replicate 0 0) (IntKind.u64.wrap (a2)) l0 (l0.length : Int) 0) else (none)) else (none)) = some r := h
 clear h
 by_cases c4 : 0 ≤ wrap64 ((l0.length : Int) + 1)
 ·rw [if_pos c4] at H
  have c4b0 := eq_true c4
  have c4b1 : decide (0 ≤ wrap64 ((l0.length : Int) + 1)) = true := decide_eq_true c4
  by_cases c5 : (wrap64 ((l0.length : Int) + 1) : Int).toNat ≤ 70368744177664
  ·rw [if_pos c5] at H
   have c5b0 := eq_true c5
   have c5b1 : decide ((wrap64 ((l0.length : Int) + 1) : Int).toNat ≤ 70368744177664) = true := decide_eq_true c5
   obtain ⟨y131, hy131⟩ : ∃ y_ : List Int, y_ = (List.replicate 0 0) := ⟨_, rfl⟩
   replace H : (dec_big_times.l0 k a1 y131 (IntKind.u64.wrap (a2)) l0 (l0.length : Int) 0) = some r := by first | (rw [hy131]; with_reducible exact H) | (have H2_ := (Option.bind_some _ _).symm.trans H; rw [hy131]; with_reducible exact H2_) | (have H2_ := (Option.bind_some _ _).symm.trans H; with_reducible exact H2_) | with_reducible exact H | (rw [hy131]; exact H) | exact H
   have Ny131 := am hy131
   clear hy131
   have H' := am H
   clear H
   go_enter Tryd.func38, Tryd.ntmps38
   go_wp2_with (first | ((with_reducible refine gate_dst (N := 14) rfl ?_); refine R_makeC (Kd.int .u32) _ 74 rfl (N := 14) rfl 64 _ _ rfl 0 (wrap64 ((l0.length : Int) + 1)) rfl rfl Tryd.underlying64 (.int .u32 0) 4 info74 rfl (by decide) (by omega) 0 (ok := fun _ => True) (okp := fun _ => True) rfl (fun _ hk => hk) trivial (by omega) pD (Nat.le_trans (Nat.mul_le_mul_right _ (pD : (wrap64 ((l0.length : Int) + 1)).toNat ≤ 70368744177664)) (by omega)) (Below.refl _ _) (Nat.le_refl _) ?_; intro v132 w6 ho7 hb hg_ hnew_; clear hg_ hnew_; (first | rw [← Ny131.out] at ho7 | (simp only [Int.reduceToNat] at ho7; rw [← Ny131.out] at ho7)); have HO133 := am (Kd.R_lower (Kd.R_newM (M := fun k_ => (w.heap.size ≤ k_)) ho7 (below_size pB) (fun k_ h_ => h_)) (below_size pB)); replace HB := am (below_step pB hb); clear hb ho7))
   go_loopg [7, 8, 19] k (fun kq v7 v8 v19 w' => ∃ (x7_1 : List Int) (x8_1 : Int) (x19_1 : Int), v8 = .int .u64 x8_1 ∧ v19 = .int .i64 x19_1 ∧ Aside0 (dec_big_times.l0 kq a1 x7_1 x8_1 l0 (l0.length : Int) x19_1 = some r) ∧ Aside0 (kq ≤ k) ∧ Aside0 (Kd.R (Kd.int .u32) 74 w' w.heap.size (fun k_ => (w.heap.size ≤ k_)) v7 x7_1) ∧ Aside0 (Below w.heap.size w w'))
   case atStart => exact ⟨(y131), (IntKind.u64.wrap (a2)), (0), (by first | rfl | (simp; done) | (simp [*]; done)), (by first | rfl | (simp; done) | (simp [*]; done)), H', ⟨Nat.le_refl _⟩, ⟨by (with_reducible repeat (first | apply Kd.R_alloc | apply Kd.R_drewN | apply Kd.R_drew)); exact Kd.R_mono HO133.out (fun _ hk => hk.1)⟩, ⟨pB⟩⟩
   case round =>
    clear H'
    try clear p2
    try clear c3
    try clear c4
    try clear c4b0
    try clear c4b1
    try clear c5
    try clear c5b0
    try clear c5b1
    try clear p6
    obtain ⟨x7_1, x8_1, x19_1, rfl, rfl, HA, HK1, HO_7, HB⟩ := hrel
    cases gk with
    | zero => exact absurd HA.out (by simp [dec_big_times.l0])
    | succ k1 =>
     have H := HA.out
     clear HA
     simp only [dec_big_times.l0] at H
     by_cases c8 : x19_1 < (l0.length : Int)
     ·rw [if_pos c8] at H
      have c8b0 : decide (x19_1 < (l0.length : Int)) = true := decide_eq_true c8
      clear c8
      by_cases c9 : 0 ≤ x19_1
      ·rw [if_pos c9] at H
       have c9b0 : decide (0 ≤ x19_1) = true := decide_eq_true c9
       clear c9
       by_cases c10 : x19_1 < (l0.length : Int)
       ·rw [if_pos c10] at H
        have c10b0 : decide (x19_1 < (l0.length : Int)) = true := decide_eq_true c10
        clear c10
        by_cases c11 : x7_1.length < 35184372088832
        ·rw [if_pos c11] at H
         have LMc11 := am c11
         clear c11
         obtain ⟨y135, hy135⟩ : ∃ y_ : List Int, y_ = (x7_1 ++ [(IntKind.u64.wrap (x8_1 + (IntKind.u64.wrap ((IntKind.u64.wrap (rd l0 x19_1)) * (IntKind.u64.wrap (a1)))))) % 4294967296]) := ⟨_, rfl⟩
         replace H : (dec_big_times.l0 k1 a1 y135 ((IntKind.u64.wrap (x8_1 + (IntKind.u64.wrap ((IntKind.u64.wrap (rd l0 x19_1)) * (IntKind.u64.wrap (a1)))))) / 4294967296) l0 (l0.length : Int) (wrap64 (x19_1 + 1))) = some r := by first | (rw [hy135]; with_reducible exact H) | (have H2_ := (Option.bind_some _ _).symm.trans H; rw [hy135]; with_reducible exact H2_) | (have H2_ := (Option.bind_some _ _).symm.trans H; with_reducible exact H2_) | with_reducible exact H | (rw [hy135]; exact H) | exact H
         have Ny135 := am hy135
         clear hy135
         have H' := am H
         clear H
         have p134 : 0 ≤ (x19_1 : Int) := pD
         have q134 : x19_1 < (l0.length : Int) := pD
         obtain ⟨ad134, e134, hx134_0⟩ := Kd.at_int HR0.out x19_1 p134 q134
         cases e134
         replace hx134_0 := (HB.out.cell (World.block_lt_of_cell? w _ hx134_0)).trans hx134_0
         replace p134 := eq_true p134
         replace q134 := eq_true q134
         go_wp2_with (first | ((with_reducible refine gate_builtin (b := .append) (xs := #[.tmp 30, .tmp 33]) rfl ?_); at_builtin; refine Kd.R_append (Kd.int .u32) (w0 := w) w.heap.size rfl (.tmp 30) (.tmp 33) 64 74 (.int .u32 0) 4 rfl Tryd.underlying64 info74 rfl (by decide) (by omega) u7 x7_1 ((IntKind.u64.wrap (x8_1 + (IntKind.u64.wrap ((IntKind.u64.wrap (rd l0 x19_1)) * (IntKind.u64.wrap (a1)))))) % 4294967296) [.int .u32 ((IntKind.u64.wrap (x8_1 + (IntKind.u64.wrap ((IntKind.u64.wrap (rd l0 x19_1)) * (IntKind.u64.wrap (a1)))))) % 4294967296)] (fun k_ => (w.heap.size ≤ k_)) (fun _ => False) rfl rfl ?aP (fun _ hk => hk.elim) ?aF ?aO ?aB ?aS ?aL ?_; (case aP => exact rfl); (case aB => exact pB); (case aF => exact (fun k_ hk => (Nat.le_trans (below_size pB) hk))); (case aO => exact (pR HO_7.out)); (case aS => exact (below_size pB)); (case aL => have := LMc11.out; omega); intro v136 w12 ho hb hg hat; rw [← Ny135.out] at ho; replace HB := am (hb); have HO137 := am (ho); clear HO_7; clear ho hb hg hat))
         go_roundg k1
         case measure => have := HK1.out; omega
         case rel => exact ⟨(y135), ((IntKind.u64.wrap (x8_1 + (IntKind.u64.wrap ((IntKind.u64.wrap (rd l0 x19_1)) * (IntKind.u64.wrap (a1)))))) / 4294967296), (wrap64 (x19_1 + 1)), (by first | rfl | (simp; done) | (simp [*]; done)), (by first | rfl | (simp; done) | (simp [*]; done)), H', ⟨by have := HK1.out; omega⟩, ⟨by (with_reducible repeat (first | apply Kd.R_alloc | apply Kd.R_drewN | apply Kd.R_drew)); exact HO137.out⟩, ⟨pB⟩⟩
        ·rw [if_neg c11] at H
         exact absurd H (by simp)
       ·rw [if_neg c10] at H
        exact absurd H (by simp)
      ·rw [if_neg c9] at H
       exact absurd H (by simp)
     ·rw [if_neg c8] at H
      have c8b0 : decide (x19_1 < (l0.length : Int)) = false := decide_eq_false c8
      clear c8
      by_cases c13 : x7_1.length < 35184372088832
      ·rw [if_pos c13] at H
       have LMc13 := am c13
       clear c13
       obtain ⟨y138, hy138⟩ : ∃ y_ : List Int, y_ = (x7_1 ++ [(x8_1) % 4294967296]) := ⟨_, rfl⟩
       replace H : ((dec_big_trim.f k1 y138).bind fun t141 => (some t141)) = some r := by first | (rw [hy138]; with_reducible exact H) | (have H2_ := (Option.bind_some _ _).symm.trans H; rw [hy138]; with_reducible exact H2_) | (have H2_ := (Option.bind_some _ _).symm.trans H; with_reducible exact H2_) | with_reducible exact H | (rw [hy138]; exact H) | exact H
       have Ny138 := am hy138
       clear hy138
       replace H := Option.bind_eq_some_iff.mp H
       obtain ⟨t141, A140, H⟩ := H
       try dsimp only at H
       have A14 := am A140
       clear A140
       obtain rfl := Option.some.inj H
       go_wp2_with (first | ((with_reducible refine gate_builtin (b := .append) (xs := #[.tmp 38, .tmp 41]) rfl ?_); at_builtin; refine Kd.R_append (Kd.int .u32) (w0 := w) w.heap.size rfl (.tmp 38) (.tmp 41) 64 74 (.int .u32 0) 4 rfl Tryd.underlying64 info74 rfl (by decide) (by omega) u7 x7_1 ((x8_1) % 4294967296) [.int .u32 ((x8_1) % 4294967296)] (fun k_ => (w.heap.size ≤ k_)) (fun _ => False) rfl rfl ?aP (fun _ hk => hk.elim) ?aF ?aO ?aB ?aS ?aL ?_; (case aP => exact rfl); (case aB => exact pB); (case aF => exact (fun k_ hk => (Nat.le_trans (below_size pB) hk))); (case aO => exact (pR HO_7.out)); (case aS => exact (below_size pB)); (case aL => have := LMc13.out; omega); intro v139 w15 ho hb hg hat; rw [← Ny138.out] at ho; replace HB := am (hb); have HO140 := am (ho); clear HO_7; clear ho hb hg hat; obtain ⟨Ao16, co16, eo16⟩ := Kd.R_slice HO140.out; subst eo16) | ((with_reducible refine gate_callee (f := 64) rfl ?_); refine goesL_ (some 43) rfl rfl Tryd.func64 (by kernel_rfl) rfl #[.slice Ao16 y138.length co16] rfl pM ?_; (with_reducible refine (dec_big_trim.calls k1 (fun k_ => some k_ = (.slice Ao16 y138.length co16 : Value).ownBlock) _ _ y138 t141 _ ?side1 A14.out).mono ?_); (case side1 => exact Kd.R_V (Kd.R_tight rfl (HO140.out))); rintro e w17 ⟨v142, rfl, ho0, hb⟩; refine ⟨_, rfl, ?_⟩; have HO143 := am (Kd.V_lower (Kd.V_mono (ok' := fun k_ => (w.heap.size ≤ k_)) ho0 (fun k_ hk_ => Or.elim hk_ (fun hs_ => ((HO140.out).1 k_ hs_.symm)) (fun hn_ => (Nat.le_trans (below_size pB) hn_)))) (below_size pB)); replace HO140 := am (Kd.R_below (pR HO140.out) hb); replace HB := am (below_step pB hb); (try clear hb); (try clear ho0)))
       go_ret
       exact ⟨_, pE, by (with_reducible repeat (first | apply Kd.V_alloc | apply Kd.V_drewN | apply Kd.V_drew)); exact HO143.out, pB⟩
      ·rw [if_neg c13] at H
       exact absurd H (by simp)
  ·rw [if_neg c5] at H
   exact absurd H (by simp)
 ·rw [if_neg c4] at H
  exact absurd H (by simp)
end Go.Proofs.YtflcanpajgpghaaDoor.Pr
end
section
namespace Go.Proofs.YtflcanpajgpghaaDoor.Pr
open Go.RowKit Go.Proofs.YtflcanpajgpghaaDoorW.PrintWords Go.Proofs.YtflcanpajgpghaaDoorW.PrintLast Go.Proofs.YtflcanpajgpghaaDoorW.PrintMore
attribute [local go_sem] max2_int min2_int max_two min_two max_three min_three max_four min_four
def dec_big_up.f (k : Nat) (l0 : List Int) (a1 : Int) : Option (List Int) := if 0 ≤ (wrap64 (Int.tdiv a1 32)) then (if wrap64 (Int.tdiv a1 32) ≤ wrap64 ((wrap64 ((wrap64 (Int.tdiv a1 32)) + (l0.length : Int))) + 1) then (if (wrap64 ((wrap64 ((wrap64 (Int.tdiv a1 32)) + (l0.length : Int))) + 1) : Int).toNat ≤ 70368744177664 then ((some (List.replicate (wrap64 (Int.tdiv a1 32) : Int).toNat 0 : List Int)).bind fun y144 => (if y144.length + l0.length < 35184372088832 then ((some (y144 ++ l0 : List Int)).bind fun y147 => (if (wrap64 (Int.tdiv a1 32)) ≤ (y147.length : Int) then (if 0 ≤ (Int.tmod a1 32) then ((dec_big_times.f k (y147.drop ((wrap64 (Int.tdiv a1 32)) : Int).toNat) (shl .u32 1 (Int.tmod a1 32)) 0).bind fun t160 => ((slices_Concat.f (([(y147.take ((wrap64 (Int.tdiv a1 32)) : Int).toNat), t160] : List (List Int)))).bind fun t166 => (some t166))) else (none)) else (none))) else (none))) else (none)) else (none)) else (none)
theorem dec_big_up.mono : ∀ a0 a1 k, LeO (dec_big_up.f k a0 a1) (dec_big_up.f (k + 1) a0 a1) := by
 intro a0 a1 k
 unfold dec_big_up.f
 repeat' first
   | (with_reducible exact dec_big_times.mono _ _ _ _)
   | (with_reducible exact LeO.refl _)
   | (with_reducible exact LeO.none _)
   | (with_reducible refine LeO.ite ?_ ?_)
   | (with_reducible refine LeO.bind ?_ (fun _ => ?_))
   | exact dec_big_times.mono _ _ _ _
   | exact LeO.none _
   | refine LeO.ite ?_ ?_
   | refine LeO.bind ?_ (fun _ => ?_)
def dec_big_up.T3 : Bool × List (List Nat × List Nat) := (true, [([], []), ([], []), ([1], [1]), ([0, 2], [0, 2]), ([], []), ([], []), ([5], [5]), ([4, 6], [4, 6]), ([], []), ([8], [8]), ([9], [9]), ([7, 10], [7, 10]), ([3, 11], [3, 11]), ([12, 11], [12]), ([13, 13, 0, 1, 2, 3, 4, 5, 6, 7, 8, 9, 10, 11, 12, 13], [13])])
def dec_big_up.B3 : List Nat := [0, 0, 2, 7, 0, 0, 32, 112, 0, 256, 768, 2032, 4095, 8191, 16383]
theorem dec_big_up.tab3 : rtab .any (opsOf Tryd.f40 3) = dec_big_up.T3 := by kernel_rfl
theorem dec_big_up.bits3 : waitsOk dec_big_up.T3.2 dec_big_up.B3 = true := by kernel_rfl
set_option maxHeartbeats 8000000 in
set_option maxRecDepth 100000 in
theorem dec_big_up.calls (k : Nat) (A0 : Option Addr) (c0 : Nat) (l0 : List Int) (a1 : Int) (r : List Int) (w : World) (hr0 : Kd.C (Kd.int .u32) w A0 l0.length l0) (hc0 : l0.length ≤ c0) (h : dec_big_up.f k l0 a1 = some r) :
  Calls Tryd.prog 40 #[.slice A0 l0.length c0, .int .i64 a1] w fun e w' => ∃ v0_ : Value, e = .returned (v0_) ∧ Kd.R (Kd.int .u32) 74 w' w.heap.size (fun _ => True) v0_ r ∧ Below w.heap.size w w' := by
 have HR0 := am hr0
 have HC0 := am hc0
 clear hr0 hc0
 have HB := am (Below.refl w.heap.size w)
 have H : (if 0 ≤ (wrap64 (Int.tdiv a1 32)) then (if wrap64 (Int.tdiv a1 32) ≤ wrap64 ((wrap64 ((wrap64 (Int.tdiv a1 32)) + (l0.length : Int))) + 1) then (if (wrap64 ((wrap64 ((wrap64 (Int.tdiv a1 32)) + (l0.length : Int))) + 1) : Int).toNat ≤ 70368744177664 then ((some (List.replicate (wrap64 (Int.tdiv a1 32) : Int).toNat 0 : List Int)).bind fun y144 => (if y144.length + l0.length < 35184372088832 then ((some (y144 ++ l0 : List Int)).bind fun y147 => (if (wrap64 (Int.tdiv a1 32)) ≤ (y147.length : Int) then (if 0 ≤ (Int.tmod a1 32) then ((dec_big_times.f k (y147.drop ((wrap64 (Int.tdiv a1 32)) : Int).toNat) (shl .u32 1 (Int.tmod a1 32)) 0).bind fun t160 => ((slices_Concat.f (([(y147.take ((wrap64 (Int.tdiv a1 32)) : Int).toNat), t160] : List (List Int)))).bind fun t166 => (some t166))) else (none)) else (none))) else (none))) else (none)) else (none)) else (none)) = some r := h
 clear h
 obtain ⟨ji3, hji3⟩ : ∃ j_ : Int, (wrap64 (Int.tdiv a1 32)) = j_ := ⟨_, rfl⟩
 replace H : (if 0 ≤ (ji3) then (if ji3 ≤ wrap64 ((wrap64 ((ji3) + (l0.length : Int))) + 1) then (if (wrap64 ((wrap64 ((ji3) + (l0.length : Int))) + 1) : Int).toNat ≤ 70368744177664 then ((some (List.replicate (ji3 : Int).toNat 0 : List Int)).bind fun y144 => (if y144.length + l0.length < 35184372088832 then ((some (y144 ++ l0 : List Int)).bind fun y147 => (if (ji3) ≤ (y147.length : Int) then (if 0 ≤ (Int.tmod a1 32) then ((dec_big_times.f k (y147.drop ((ji3) : Int).toNat) (shl .u32 1 (Int.tmod a1 32)) 0).bind fun t160 => ((slices_Concat.f (([(y147.take ((ji3) : Int).toNat), t160] : List (List Int)))).bind fun t166 => (some t166))) else (none)) else (none))) else (none))) else (none)) else (none)) else (none)) = some r := by first | (rw [hji3] at H; exact H) | (simp only [hji3] at H ⊢; exact H)
 have hji3w : (IntKind.i64.wrap (Int.tdiv a1 32)) = ji3 := (i64_w _).trans hji3
 by_cases c4 : 0 ≤ (ji3)
 ·rw [if_pos c4] at H
  have c4b0 := eq_true c4
  have c4b1 : decide (0 ≤ (ji3)) = true := decide_eq_true c4
  clear c4
  by_cases c5 : ji3 ≤ wrap64 ((wrap64 ((ji3) + (l0.length : Int))) + 1)
  ·rw [if_pos c5] at H
   have c5b0 := eq_true c5
   have c5b1 : decide (ji3 ≤ wrap64 ((wrap64 ((ji3) + (l0.length : Int))) + 1)) = true := decide_eq_true c5
   by_cases c6 : (wrap64 ((wrap64 ((ji3) + (l0.length : Int))) + 1) : Int).toNat ≤ 70368744177664
   ·rw [if_pos c6] at H
    have c6b0 := eq_true c6
    have c6b1 : decide ((wrap64 ((wrap64 ((ji3) + (l0.length : Int))) + 1) : Int).toNat ≤ 70368744177664) = true := decide_eq_true c6
    obtain ⟨y144, hy144⟩ : ∃ y_ : List Int, y_ = (List.replicate (ji3 : Int).toNat 0) := ⟨_, rfl⟩
    replace H : (if y144.length + l0.length < 35184372088832 then ((some (y144 ++ l0 : List Int)).bind fun y147 => (if (ji3) ≤ (y147.length : Int) then (if 0 ≤ (Int.tmod a1 32) then ((dec_big_times.f k (y147.drop ((ji3) : Int).toNat) (shl .u32 1 (Int.tmod a1 32)) 0).bind fun t160 => ((slices_Concat.f (([(y147.take ((ji3) : Int).toNat), t160] : List (List Int)))).bind fun t166 => (some t166))) else (none)) else (none))) else (none)) = some r := by first | (rw [hy144]; with_reducible exact H) | (have H2_ := (Option.bind_some _ _).symm.trans H; rw [hy144]; with_reducible exact H2_) | (have H2_ := (Option.bind_some _ _).symm.trans H; with_reducible exact H2_) | with_reducible exact H | (rw [hy144]; exact H) | exact H
    have Ny144 := am hy144
    clear hy144
    by_cases c7 : y144.length + l0.length < 35184372088832
    ·rw [if_pos c7] at H
     have LMc7 := am c7
     clear c7
     obtain ⟨y147, hy147⟩ : ∃ y_ : List Int, y_ = (y144 ++ l0) := ⟨_, rfl⟩
     replace H : (if (ji3) ≤ (y147.length : Int) then (if 0 ≤ (Int.tmod a1 32) then ((dec_big_times.f k (y147.drop ((ji3) : Int).toNat) (shl .u32 1 (Int.tmod a1 32)) 0).bind fun t160 => ((slices_Concat.f (([(y147.take ((ji3) : Int).toNat), t160] : List (List Int)))).bind fun t166 => (some t166))) else (none)) else (none)) = some r := by first | (rw [hy147]; with_reducible exact H) | (have H2_ := (Option.bind_some _ _).symm.trans H; rw [hy147]; with_reducible exact H2_) | (have H2_ := (Option.bind_some _ _).symm.trans H; with_reducible exact H2_) | with_reducible exact H | (rw [hy147]; exact H) | exact H
     have Ny147 := am hy147
     clear hy147
     have c8b0 := eq_true (pD : 0 ≤ (ji3))
     by_cases c9 : (ji3) ≤ (y147.length : Int)
     ·rw [if_pos c9] at H
      have c9b0 := eq_true c9
      have c9b1 : decide ((ji3) ≤ (y147.length : Int)) = true := decide_eq_true c9
      clear c9
      obtain ⟨y150, hy150⟩ : ∃ y_ : List Int, y_ = (y147.take ((ji3) : Int).toNat) := ⟨_, rfl⟩
      replace H : (if 0 ≤ (Int.tmod a1 32) then ((dec_big_times.f k (y147.drop ((ji3) : Int).toNat) (shl .u32 1 (Int.tmod a1 32)) 0).bind fun t160 => ((slices_Concat.f (([y150, t160] : List (List Int)))).bind fun t166 => (some t166))) else (none)) = some r := by first | (rw [hy150]; with_reducible exact H) | (have H2_ := (Option.bind_some _ _).symm.trans H; rw [hy150]; with_reducible exact H2_) | (have H2_ := (Option.bind_some _ _).symm.trans H; with_reducible exact H2_) | with_reducible exact H | (rw [hy150]; exact H) | exact H
      have Ny150 := am hy150
      clear hy150
      have c10b0 := eq_true (pD : 0 ≤ (ji3))
      have c11b0 := eq_true (pD : (ji3) ≤ (y147.length : Int))
      obtain ⟨y155, hy155⟩ : ∃ y_ : List Int, y_ = (y147.drop ((ji3) : Int).toNat) := ⟨_, rfl⟩
      replace H : (if 0 ≤ (Int.tmod a1 32) then ((dec_big_times.f k y155 (shl .u32 1 (Int.tmod a1 32)) 0).bind fun t160 => ((slices_Concat.f (([y150, t160] : List (List Int)))).bind fun t166 => (some t166))) else (none)) = some r := by first | (rw [hy155]; with_reducible exact H) | (have H2_ := (Option.bind_some _ _).symm.trans H; rw [hy155]; with_reducible exact H2_) | (have H2_ := (Option.bind_some _ _).symm.trans H; with_reducible exact H2_) | with_reducible exact H | (rw [hy155]; exact H) | exact H
      have Ny155 := am hy155
      clear hy155
      obtain ⟨ji12, hji12⟩ : ∃ j_ : Int, (Int.tmod a1 32) = j_ := ⟨_, rfl⟩
      replace H : (if 0 ≤ (ji12) then ((dec_big_times.f k y155 (shl .u32 1 (ji12)) 0).bind fun t160 => ((slices_Concat.f (([y150, t160] : List (List Int)))).bind fun t166 => (some t166))) else (none)) = some r := by first | (rw [hji12] at H; exact H) | (simp only [hji12] at H ⊢; exact H)
      by_cases c13 : 0 ≤ (ji12)
      ·rw [if_pos c13] at H
       have c13b0 := eq_true c13
       have c13b1 : decide (0 ≤ (ji12)) = true := decide_eq_true c13
       clear c13
       obtain ⟨ji14, hji14⟩ : ∃ j_ : Int, (shl .u32 1 (ji12)) = j_ := ⟨_, rfl⟩
       replace H : ((dec_big_times.f k y155 (ji14) 0).bind fun t160 => ((slices_Concat.f (([y150, t160] : List (List Int)))).bind fun t166 => (some t166))) = some r := by first | (rw [hji14] at H; exact H) | (simp only [hji14] at H ⊢; exact H)
       have hji14_ : (IntKind.u32.wrap (1 * 2 ^ min (ji12).toNat 32)) = ji14 := hji14
       have hji14z : (ji12) ≤ 32 → (IntKind.u32.wrap (1 * 2 ^ (ji12).toNat)) = ji14 := shl_small hji14
       have hji14u : (IntKind.u32.wrap (2 ^ min (ji12).toNat 32)) = ji14 := by have h_ := hji14_; rw [Int.one_mul] at h_; exact h_
       have hji14v : (ji12) ≤ 32 → (IntKind.u32.wrap (2 ^ (ji12).toNat)) = ji14 := fun hle_ => by have h_ := hji14z hle_; rw [Int.one_mul] at h_; exact h_
       replace H := Option.bind_eq_some_iff.mp H
       obtain ⟨t160, A150, H⟩ := H
       try dsimp only at H
       have A15 := am A150
       clear A150
       obtain ⟨y163, hy163⟩ : ∃ y_ : List (List Int), y_ = (([y150, t160] : List (List Int))) := ⟨_, rfl⟩
       replace H : ((slices_Concat.f y163).bind fun t166 => (some t166)) = some r := by first | (rw [hy163]; with_reducible exact H) | (have H2_ := (Option.bind_some _ _).symm.trans H; rw [hy163]; with_reducible exact H2_) | (have H2_ := (Option.bind_some _ _).symm.trans H; with_reducible exact H2_) | with_reducible exact H | (rw [hy163]; exact H) | exact H
       have Ny163 := am hy163
       clear hy163
       replace H := Option.bind_eq_some_iff.mp H
       obtain ⟨t166, A160, H⟩ := H
       try dsimp only at H
       have A16 := am A160
       clear A160
       obtain rfl := Option.some.inj H
       go_enter Tryd.func40, Tryd.ntmps40
       try go_wp2_with (first | ((with_reducible refine gate_dst (N := 14) rfl ?_); refine R_makeC (Kd.int .u32) _ 74 rfl (N := 14) rfl 64 _ _ rfl ji3 (wrap64 ((wrap64 ((ji3) + (l0.length : Int))) + 1)) rfl rfl Tryd.underlying64 (.int .u32 0) 4 info74 rfl (by decide) (by omega) 0 (ok := fun _ => True) (okp := fun _ => True) rfl (fun _ hk => hk) trivial pD pD (Nat.le_trans (Nat.mul_le_mul_right _ (pD : (wrap64 ((wrap64 ((ji3) + (l0.length : Int))) + 1)).toNat ≤ 70368744177664)) (by omega)) (Below.refl _ _) (Nat.le_refl _) ?_; intro v145 w17 ho18 hb hg_ hnew_; clear hg_ hnew_; (first | rw [← Ny144.out] at ho18 | (simp only [Int.reduceToNat] at ho18; rw [← Ny144.out] at ho18)); have HO146 := am (Kd.R_lower ho18 (below_size pB)); replace HB := am (below_step pB hb); clear hb ho18) | ((with_reducible refine gate_builtin (b := .append) (xs := #[.tmp 15, .tmp 16]) rfl ?_); at_builtin; refine Kd.R_append_rows (Kd.int .u32) (w0 := w) w.heap.size rfl (.tmp 15) (.tmp 16) 64 74 (.int .u32 0) 4 rfl Tryd.underlying64 info74 rfl (by decide) (by omega) v145 y144 l0 _ _ _ (fun _ => True) (fun _ => False) rfl rfl ?aO ?aR (fun _ _ h => h) (fun _ h => h.elim) ?aF ?aB ?aS ?aL ?_; (case aR => exact pC (Kd.C_below HR0.out HB.out)); (case aB => exact pB); (case aF => exact (fun _ _ => trivial)); (case aO => exact (pR HO146.out)); (case aS => exact (below_size pB)); (case aL => have := LMc7.out; omega); intro v148 w19 ho hb hg hat; rw [← Ny147.out] at ho; replace HB := am (hb); have HO149 := am (ho); clear HO146; clear ho hb hg hat))
       replace HO149 := am (Kd.R_drew HO149.out)
       replace HB := am (below_drew1 HB.out)
       obtain ⟨Ao22, co22, eo22⟩ := Kd.R_slice HO149.out
       (first | subst eo22 | (injection eo22 with f1_ f2_ f3_; have f4_ := f1_.symm; have f5_ := f3_.symm; clear f1_ f2_ f3_; subst f4_; subst f5_))
       have q21 : ((ji3) : Int) ≤ ((y147.length : Int) : Int) := pD
       obtain ⟨i021, hi021, _, hsz21, _⟩ := info_parts info74
       have hroom21 : y147.length ≤ co22 := (Kd.R_reads' HO149.out).2.1
       have hC21 : Kd.F (Kd.int .u32) _ _ Ao22 y147.length y147 := (Kd.V_at (base := w.heap.size) (Kd.R_V HO149.out)).2.2
       have hcut21 := cut_to (P := Tryd.prog) 64 74 .i64 Tryd.underlying64 hi021 Ao22 y147.length co22 (ji3) pD q21 hroom21
       have hr21 := Kd.F_take (m := ((ji3) : Int).toNat) hC21 (by omega)
       have hy21 : y150.length = ((ji3) : Int).toNat := (by rw [Ny150.out, List.length_take]; omega)
       rw [← Ny150.out] at hr21
       rw [← hy21] at hcut21
       have HO154 := am (show Kd.V (Kd.int .u32) 74 _ w.heap.size _ (.slice Ao22 y150.length co22) y150 from Kd.V_mk (by omega) hr21)
       have HC154 := am (show y150.length ≤ co22 from by omega)
       clear hr21 hC21 hroom21 hi021 hsz21
       have KY21 := am hy21
       clear hy21
       replace q21 := eq_true q21
       have q23 : ((ji3) : Int) ≤ ((y147.length : Int) : Int) := pD
       obtain ⟨i023, hi023, _, hsz23, _⟩ := info_parts info74
       have hroom23 : y147.length ≤ co22 := (Kd.R_reads' HO149.out).2.1
       have hC23 : Kd.F (Kd.int .u32) _ _ Ao22 y147.length y147 := (Kd.V_at (base := w.heap.size) (Kd.R_V HO149.out)).2.2
       have q023 : (0 : Int) ≤ ((ji3) : Int) := pD
       have hcut23 := cut_from (P := Tryd.prog) 64 74 .i64 Tryd.underlying64 hi023 1 hsz23 Ao22 y147.length co22 (ji3) q023 q23
       have hr23 := Kd.F_cut (m := ((ji3) : Int).toNat) (c := co22) hC23 (by omega) hroom23
       obtain ⟨A23, hA23⟩ : ∃ A1, A1 = (if co22 = ((ji3) : Int).toNat then Ao22 else (Ao22 : Option Addr).map (·.add (((ji3) : Int).toNat * 1))) := ⟨_, rfl⟩
       obtain ⟨c23, hc23⟩ : ∃ c1, c1 = co22 - ((ji3) : Int).toNat := ⟨_, rfl⟩
       have hy23 : y155.length = y147.length - ((ji3) : Int).toNat := (by rw [Ny155.out, List.length_drop] <;> omega)
       rw [show (y147).drop ((ji3) : Int).toNat = y155 from Ny155.out.symm] at hr23
       replace hr23 : Kd.F (Kd.int .u32) _ _ A23 y155.length y155 := (by rw [hA23]; exact hr23)
       rw [← hy23, ← hA23, ← hc23] at hcut23
       have HO159 := am (show Kd.V (Kd.int .u32) 74 _ w.heap.size _ (.slice A23 y155.length c23) y155 from Kd.V_mk (by rw [hy23, hc23]; exact Nat.sub_le_sub_right hroom23 _) hr23)
       have HC159 := am (show y155.length ≤ c23 from by rw [hy23, hc23]; exact Nat.sub_le_sub_right hroom23 _)
       clear hr23 hC23 hroom23 hi023 hsz23 hc23
       have KY23 := am hy23
       have KA23 := am hA23
       clear hy23 hA23
       replace q23 := eq_true q23
       refine start_ (n := 15) (S := fun w' => True) (ds := []) (bm 15 0) (by kernel_rfl) rfl rfl trivial (fun hHeld => ?_); refine with_tabW dec_big_up.tab3 dec_big_up.bits3 (fun HT_ HW_ => ?_)
       generalize w19.drew = w20 at HO149 HB HO154 HO159 hHeld ⊢
       refine pure_ (i := 0) (N := some 18) (v := ?_) (a' := ?_) (bm 15 1) rfl rfl (any_of HT_.out (by kernel_rfl)) (fun _ _ _ h => h) (Or.inl ⟨by kernel_rfl, ?_⟩) ?_ ?_
       rotate_left
       ·intro w'
        go_simp
        with_reducible rfl
       rotate_left
       ·exact pA
       refine pure_ (i := 1) (N := some 19) (v := ?_) (a' := ?_) (bm 15 3) rfl rfl (any_of HT_.out (by kernel_rfl)) (fun _ _ _ h => h) (Or.inl ⟨by kernel_rfl, ?_⟩) ?_ ?_
       rotate_left
       ·intro w'
        go_simp
        with_reducible rfl
       rotate_left
       ·exact pA
       refine pure_ (i := 2) (N := some 20) (v := ?_) (a' := ?_) (bm 15 7) rfl rfl (any_of HT_.out (by kernel_rfl)) (fun _ _ _ h => h) (Or.inl ⟨by kernel_rfl, ?_⟩) ?_ ?_
       rotate_left
       ·intro w'
        go_simp
        with_reducible rfl
       rotate_left
       ·exact pA
       refine pure_ (i := 3) (N := some 21) (v := ?_) (a' := ?_) (bm 15 15) rfl rfl (any_of HT_.out (by kernel_rfl)) (fun _ _ _ h => h) (Or.inl ⟨by kernel_rfl, ?_⟩) ?_ ?_
       rotate_left
       ·intro w'
        go_simp
        with_reducible rfl
       rotate_left
       ·exact pA
       refine pure_ (i := 4) (N := some 22) (v := ?_) (a' := ?_) (bm 15 31) rfl rfl (any_of HT_.out (by kernel_rfl)) (fun _ _ _ h => h) (Or.inl ⟨by kernel_rfl, ?_⟩) ?_ ?_
       rotate_left
       ·intro w'
        go_simp
        with_reducible rfl
       rotate_left
       ·exact pA
       refine pure_ (i := 5) (N := some 23) (v := ?_) (a' := ?_) (bm 15 63) rfl rfl (any_of HT_.out (by kernel_rfl)) (fun _ _ _ h => h) (Or.inl ⟨by kernel_rfl, ?_⟩) ?_ ?_
       rotate_left
       ·intro w'
        go_simp
        with_reducible rfl
       rotate_left
       ·exact pA
       refine pure_ (i := 6) (N := some 24) (v := ?_) (a' := ?_) (bm 15 127) rfl rfl (any_of HT_.out (by kernel_rfl)) (fun _ _ _ h => h) (Or.inl ⟨by kernel_rfl, ?_⟩) ?_ ?_
       rotate_left
       ·intro w'
        go_simp
        with_reducible rfl
       rotate_left
       ·exact pA
       refine pure_ (i := 7) (N := some 25) (v := ?_) (a' := ?_) (bm 15 255) rfl rfl (any_of HT_.out (by kernel_rfl)) (fun _ _ _ h => h) (Or.inl ⟨by kernel_rfl, ?_⟩) ?_ ?_
       rotate_left
       ·intro w'
        go_simp
        with_reducible rfl
       rotate_left
       ·exact pA
       refine pure_ (i := 8) (N := some 26) (v := ?_) (a' := ?_) (bm 15 511) rfl rfl (any_of HT_.out (by kernel_rfl)) (fun _ _ _ h => h) (Or.inl ⟨by kernel_rfl, ?_⟩) ?_ ?_
       rotate_left
       ·intro w'
        go_simp
        with_reducible rfl
       rotate_left
       ·exact pA
       refine pure_ (i := 9) (N := some 27) (v := ?_) (a' := ?_) (bm 15 1023) rfl rfl (any_of HT_.out (by kernel_rfl)) (fun _ _ _ h => h) (Or.inl ⟨by kernel_rfl, ?_⟩) ?_ ?_
       rotate_left
       ·intro w'
        go_simp
        with_reducible rfl
       rotate_left
       ·exact pA
       refine pure_ (i := 10) (N := some 28) (v := ?_) (a' := ?_) (bm 15 2047) rfl rfl (any_of HT_.out (by kernel_rfl)) (fun _ _ _ h => h) (Or.inl ⟨by kernel_rfl, ?_⟩) ?_ ?_
       rotate_left
       ·intro w'
        go_simp
        with_reducible rfl
       rotate_left
       ·exact pA
       refine one_ (i := 11) (N := some 29) (bm 15 4095) rfl rfl (one_of HT_.out (by kernel_rfl)) (by decide) (fun K hK => ?_)
       refine goes_ Tryd.func38 (by kernel_rfl) rfl #[.slice A23 y155.length c23, .int .u32 ji14, .int .u32 0] (by rfl) rfl rfl (by (try simp only [List.map_toArray, List.map_cons, List.map_nil]); first | done | (simp only [hji14]; rfl) | rfl | (simp only [List.length_drop, List.length_take]; rfl)) ?_
       with_reducible refine (dec_big_times.calls k _ _ y155 ji14 0 t160 _ ?side1 ?side2 A15.out).mono ?_
       (case side1 => repeat (first | exact (Kd.V_reads' HO159.out).2.2 | (with_reducible refine Kd.C_alloc ?_ _) | (with_reducible refine Kd.C_drewN ?_ _) | (with_reducible refine Kd.C_drew ?_)))
       (case side2 => exact (Kd.V_reads' HO159.out).2.1)
       rintro e w24 ⟨v161, rfl, ho0, hb⟩
       refine ⟨_, rfl, ?_⟩
       have n0_ := am (Kd.R_below (pR HO149.out) hb)
       have n1_ := am (Kd.V_below (pV HO154.out) hb)
       have n2_ := am (Kd.V_below (pV HO159.out) hb)
       have n3_ := am (Kd.V_lower (Kd.V_mono (ok' := fun k_ => some k_ ≠ (.slice Ao22 y147.length co22 : Value).ownBlock) ho0 (fun k_ hk_ => (Kd.fresh' (Kd.R_lt (pR HO149.out)) k_ hk_))) (below_size pB))
       have n4_ := am (below_step pB hb)
       clear HO149 HO154 HO159 HB; have HO149 := n0_; have HO154 := n1_; have HO159 := n2_; have HO162 := n3_; have HB := n4_; clear n0_ n1_ n2_ n3_ n4_; (try clear hb); (try clear ho0)
       obtain ⟨Ao25, co25, eo25⟩ := Kd.V_slice HO162.out
       (first | subst eo25 | (injection eo25 with f1_ f2_ f3_; have f4_ := f1_.symm; have f5_ := f3_.symm; clear f1_ f2_ f3_; subst f4_; subst f5_))
       refine hK.out _ _ trivial (fun hHeld => ?_)
       clear hK K
       refine norm_ (a' := ?_) ?_ ?_
       rotate_left
       ·show Act.put _ (some 29) _ = _
        exact pA
       refine one_ (i := 12) (N := some 30) (bm 15 8191) rfl rfl (one_of HT_.out (by kernel_rfl)) (by decide) (fun K hK => ?_)
       refine Kd.N_lit_step (Kd.slice 74 (Kd.int .u32)) _ 64 ?hg (N' := 30) ?hd (xs := ([y150, t160] : List (List Int))) (inner := [.slice Ao22 y150.length co22, .slice Ao25 t160.length co25]) (ok := (fun _ => True)) (okp := (fun _ => True)) ?hr ?hp (fun _ hk => hk) ((show ∀ k_, w24.heap.size ≤ k_ → (fun _ => True) k_ from fun k_ hk => trivial) _ (Nat.le_refl _)) (Below.refl _ _) (Nat.le_refl _) (by simp) ?_; (case hd => rfl); (case hg => rfl); (case hr => first | (go_simp; done) | (go_simp; rfl)); (case hp => exact (Reps.one (show Kd.FK (Kd.slice 74 (Kd.int .u32)) _ _ y150 [.slice Ao22 y150.length co22] from (Kd.FK_slice_mk (Kd.V_reads' (Kd.V_mono (ok' := (fun _ => True)) (HO154.out) (fun k_ hk => trivial))).2.1 (Kd.V_F (Kd.V_mono (ok' := (fun _ => True)) (HO154.out) (fun k_ hk => trivial))))) (Reps.one (show Kd.FK (Kd.slice 74 (Kd.int .u32)) _ _ t160 [.slice Ao25 t160.length co25] from (Kd.FK_slice_mk (Kd.V_reads' (Kd.V_mono (ok' := (fun _ => True)) (HO162.out) (fun k_ hk => trivial))).2.1 (Kd.V_F (Kd.V_mono (ok' := (fun _ => True)) (HO162.out) (fun k_ hk => trivial))))) (Reps.none _ _))))
       intro v164 w26 ho27 hb hg_ hnew_
       clear hg_ hnew_
       (first | rw [← Ny163.out] at ho27 | (simp only [Int.reduceToNat] at ho27; rw [← Ny163.out] at ho27))
       have n0_ := am (Kd.R_below (pR HO149.out) hb)
       have n1_ := am (Kd.V_elder' (pV HO154.out) (Kd.N_base ho27) hb)
       have n2_ := am (Kd.V_elder' (pV HO159.out) (Kd.N_base ho27) hb)
       have n3_ := am (Kd.V_elder' (pV HO162.out) (Kd.N_base ho27) hb)
       have n4_ := am (Kd.N_lower ho27 (below_size pB))
       have n5_ := am (below_step pB hb)
       clear HO149 HO154 HO159 HO162 HB; have HO149 := n0_; have HO154 := n1_; have HO159 := n2_; have HO162 := n3_; have HO165 := n4_; have HB := n5_; clear n0_ n1_ n2_ n3_ n4_ n5_ hb ho27
       obtain ⟨Ao28, co28, eo28⟩ := Kd.N_slice HO165.out
       (first | subst eo28 | (injection eo28 with f1_ f2_ f3_; have f4_ := f1_.symm; have f5_ := f3_.symm; clear f1_ f2_ f3_; subst f4_; subst f5_))
       refine hK.out _ _ trivial (fun hHeld => ?_)
       clear hK K
       refine norm_ (a' := ?_) ?_ ?_
       rotate_left
       ·show Act.put _ (some 30) _ = _
        exact pA
       refine one_ (i := 13) (N := some 31) (bm 15 16383) rfl rfl (one_of HT_.out (by kernel_rfl)) (by decide) (fun K hK => ?_)
       refine goes_ Tryd.func66 (by kernel_rfl) rfl #[.slice Ao28 y163.length co28] (by rfl) rfl rfl pM ?_
       with_reducible refine (slices_Concat.calls _ _ y163 t166 _ ?side1 ?side2 A16.out).mono ?_
       (case side1 => repeat (first | exact (Kd.N_reads' HO165.out).2.2 | (with_reducible refine Kd.C_alloc ?_ _) | (with_reducible refine Kd.C_drewN ?_ _) | (with_reducible refine Kd.C_drew ?_)))
       (case side2 => exact (Kd.N_reads' HO165.out).2.1)
       rintro e w29 ⟨v167, rfl, ho0, hb⟩
       refine ⟨_, rfl, ?_⟩
       have n0_ := am (Kd.R_elder' (pR HO149.out) (Kd.R_base ho0) hb)
       have n1_ := am (Kd.V_elder' (pV HO154.out) (Kd.R_base ho0) hb)
       have n2_ := am (Kd.V_elder' (pV HO159.out) (Kd.R_base ho0) hb)
       have n3_ := am (Kd.V_elder' (pV HO162.out) (Kd.R_base ho0) hb)
       have n4_ := am (Kd.N_elder' (pN HO165.out) (Kd.R_base ho0) hb)
       have n5_ := am (Kd.R_lower (Kd.R_new' ho0 (Kd.R_lt (pR HO149.out))) (below_size pB))
       have n6_ := am (below_step pB hb)
       clear HO149 HO154 HO159 HO162 HO165 HB; have HO149 := n0_; have HO154 := n1_; have HO159 := n2_; have HO162 := n3_; have HO165 := n4_; have HO168 := n5_; have HB := n6_; clear n0_ n1_ n2_ n3_ n4_ n5_ n6_; (try clear hb); (try clear ho0)
       refine hK.out _ _ trivial (fun hHeld => ?_)
       clear hK K
       refine norm_ (a' := ?_) ?_ ?_
       rotate_left
       ·show Act.put _ (some 31) _ = _
        exact pA
       refine pure_ (i := 14) (N := some 4) (v := ?_) (a' := ?_) (bm 15 32767) rfl rfl (any_of HT_.out (by kernel_rfl)) (fun _ _ _ h => h) (Or.inl ⟨by kernel_rfl, ?_⟩) ?_ ?_
       rotate_left
       ·intro w'
        go_simp
        with_reducible rfl
       rotate_left
       ·exact pA
       refine done_ (done_of HT_.out (by kernel_rfl)) ?_
       try go_wp2
       go_ret
       exact ⟨_, by first | rfl | (simp [errW_none, errW_some] <;> rfl) | (simp only [← hji3, ← hji12, ← hji14]; first | rfl | (simp [errW_none, errW_some] <;> rfl)) | (simp [*, errW_none, errW_some] <;> rfl), by (with_reducible repeat (first | apply Kd.R_alloc | apply Kd.R_drewN | apply Kd.R_drew)); exact Kd.R_mono HO168.out (fun _ hk => trivial), pB⟩
      ·rw [if_neg c13] at H
       exact absurd H (by simp)
     ·rw [if_neg c9] at H
      exact absurd H (by simp)
    ·rw [if_neg c7] at H
     exact absurd H (by simp)
   ·rw [if_neg c6] at H
    exact absurd H (by simp)
  ·rw [if_neg c5] at H
   exact absurd H (by simp)
 ·rw [if_neg c4] at H
  exact absurd H (by simp)
def flo_Parts.f (a0 : Int) : Option (Bool × Int × Int) := (flo_kind.f a0).bind fun t169 => (if t169 = 1 then (some (((a0 / 9223372036854775808) == 1), (-1074), Go.bits .and .u64 a0 4503599627370495)) else (if t169 = 2 then (some (((a0 / 9223372036854775808) == 1), wrap64 ((wrap64 (Go.bits .and .u64 (a0 / 4503599627370496) 2047)) - 1075), Go.bits .or .u64 (Go.bits .and .u64 a0 4503599627370495) 4503599627370496)) else (some (((a0 / 9223372036854775808) == 1), 0, 0))))
set_option maxHeartbeats 8000000 in
set_option maxRecDepth 100000 in
theorem flo_Parts.calls (a0 : Int) (r1 : Bool) (r2 : Int) (r3 : Int) (w : World) (h : flo_Parts.f a0 = some (r1, r2, r3)) :
  Calls Tryd.prog 62 #[.int .u64 a0] w fun e w' => e = .returned (.tuple #[.bool r1, .int .i64 r2, .int .u64 r3]) ∧ Drawn0 w w' := by
 have H : ((flo_kind.f a0).bind fun t169 => (if t169 = 1 then (some (((a0 / 9223372036854775808) == 1), (-1074), Go.bits .and .u64 a0 4503599627370495)) else (if t169 = 2 then (some (((a0 / 9223372036854775808) == 1), wrap64 ((wrap64 (Go.bits .and .u64 (a0 / 4503599627370496) 2047)) - 1075), Go.bits .or .u64 (Go.bits .and .u64 a0 4503599627370495) 4503599627370496)) else (some (((a0 / 9223372036854775808) == 1), 0, 0))))) = some (r1, r2, r3) := h
 clear h
 replace H := Option.bind_eq_some_iff.mp H
 obtain ⟨t169, A20, H⟩ := H
 try dsimp only at H
 have A2 := am A20
 clear A20
 by_cases c3 : t169 = 1
 ·rw [if_pos c3] at H
  have c3b0 : (t169 == 1) = true := beq_iff_eq.mpr c3
  have c3b1 : (t169 != 1) = false := bne_eq_false_iff_eq.mpr c3
  clear c3
  simp only [Option.some.injEq, Prod.mk.injEq] at H
  obtain ⟨rfl, rfl, rfl⟩ := H
  go_enter Tryd.func62, Tryd.ntmps62
  go_wp2_with (first | ((with_reducible refine gate_callee (f := 29) rfl ?_); refine goesL_ (some 13) rfl rfl Tryd.func29 (by kernel_rfl) rfl #[.int .u64 a0] rfl pM ?_; (with_reducible refine (flo_kind.calls a0 t169 _ A2.out).mono ?_); rintro e w' ⟨rfl, ⟨nd, rfl⟩⟩; refine ⟨_, rfl, ?_⟩))
  go_ret3
  exact ⟨by first | rfl | (simp; done) | (simp [*]; done), by repeat (first | exact Drawn0.refl _ | apply Drawn0.step)⟩
 ·rw [if_neg c3] at H
  have c3b0 : (t169 == 1) = false := beq_eq_false_iff_ne.mpr c3
  have c3b1 : (t169 != 1) = true := bne_iff_ne.mpr c3
  by_cases c4 : t169 = 2
  ·rw [if_pos c4] at H
   have c4b0 : (t169 == 2) = true := beq_iff_eq.mpr c4
   have c4b1 : (t169 != 2) = false := bne_eq_false_iff_eq.mpr c4
   clear c4
   simp only [Option.some.injEq, Prod.mk.injEq] at H
   obtain ⟨rfl, rfl, rfl⟩ := H
   go_enter Tryd.func62, Tryd.ntmps62
   go_wp2_with (first | ((with_reducible refine gate_callee (f := 29) rfl ?_); refine goesL_ (some 13) rfl rfl Tryd.func29 (by kernel_rfl) rfl #[.int .u64 a0] rfl pM ?_; (with_reducible refine (flo_kind.calls a0 t169 _ A2.out).mono ?_); rintro e w' ⟨rfl, ⟨nd, rfl⟩⟩; refine ⟨_, rfl, ?_⟩))
   go_ret3
   exact ⟨by first | rfl | (simp; done) | (simp [*]; done), by repeat (first | exact Drawn0.refl _ | apply Drawn0.step)⟩
  ·rw [if_neg c4] at H
   have c4b0 : (t169 == 2) = false := beq_eq_false_iff_ne.mpr c4
   have c4b1 : (t169 != 2) = true := bne_iff_ne.mpr c4
   simp only [Option.some.injEq, Prod.mk.injEq] at H
   obtain ⟨rfl, rfl, rfl⟩ := H
   go_enter Tryd.func62, Tryd.ntmps62
   go_wp2_with (first | ((with_reducible refine gate_callee (f := 29) rfl ?_); refine goesL_ (some 13) rfl rfl Tryd.func29 (by kernel_rfl) rfl #[.int .u64 a0] rfl pM ?_; (with_reducible refine (flo_kind.calls a0 t169 _ A2.out).mono ?_); rintro e w' ⟨rfl, ⟨nd, rfl⟩⟩; refine ⟨_, rfl, ?_⟩))
   go_ret3
   exact ⟨by first | rfl | (simp; done) | (simp [*]; done), by repeat (first | exact Drawn0.refl _ | apply Drawn0.step)⟩
def dec_of.f (k : Nat) (a0 : Int) : Option (List Int) := (dec_big_trim.f k (([(a0) % 4294967296, (a0 / 4294967296) % 4294967296] : List Int))).bind fun t173 => (some t173)
theorem dec_of.mono : ∀ a0 k, LeO (dec_of.f k a0) (dec_of.f (k + 1) a0) := by
 intro a0 k
 unfold dec_of.f
 repeat' first
   | (with_reducible exact dec_big_trim.mono _ _)
   | (with_reducible exact LeO.refl _)
   | (with_reducible exact LeO.none _)
   | (with_reducible refine LeO.ite ?_ ?_)
   | (with_reducible refine LeO.bind ?_ (fun _ => ?_))
   | exact dec_big_trim.mono _ _
   | exact LeO.none _
   | refine LeO.ite ?_ ?_
   | refine LeO.bind ?_ (fun _ => ?_)
set_option maxHeartbeats 8000000 in
set_option maxRecDepth 100000 in
theorem dec_of.calls (k : Nat) (a0 : Int) (r : List Int) (w : World) (h : dec_of.f k a0 = some r) :
  Calls Tryd.prog 63 #[.int .u64 a0] w fun e w' => ∃ v0_ : Value, e = .returned (v0_) ∧ Kd.V (Kd.int .u32) 74 w' w.heap.size (fun k_ => (w.heap.size ≤ k_)) v0_ r ∧ Below w.heap.size w w' := by
 have HB := am (Below.refl w.heap.size w)
 have H : ((dec_big_trim.f k (([(a0) % 4294967296, (a0 / 4294967296) % 4294967296] : List Int))).bind fun t173 => (some t173)) = some r := h
 clear h
 obtain ⟨y170, hy170⟩ : ∃ y_ : List Int, y_ = (([(a0) % 4294967296, (a0 / 4294967296) % 4294967296] : List Int)) := ⟨_, rfl⟩
 replace H : ((dec_big_trim.f k y170).bind fun t173 => (some t173)) = some r := by first | (rw [hy170]; with_reducible exact H) | (have H2_ := (Option.bind_some _ _).symm.trans H; rw [hy170]; with_reducible exact H2_) | (have H2_ := (Option.bind_some _ _).symm.trans H; with_reducible exact H2_) | with_reducible exact H | (rw [hy170]; exact H) | exact H
 have Ny170 := am hy170
 clear hy170
 replace H := Option.bind_eq_some_iff.mp H
 obtain ⟨t173, A20, H⟩ := H
 try dsimp only at H
 have A2 := am A20
 clear A20
 obtain rfl := Option.some.inj H
 go_enter Tryd.func63, Tryd.ntmps63
 go_wp2_with (first | ((with_reducible refine gate_dst (N := 8) rfl ?_); refine Kd.R_lit (Kd.int .u32) _ 74 ?hg (N := 8) ?hd (xs := ([(a0) % 4294967296, (a0 / 4294967296) % 4294967296] : List Int)) (inner := [.int .u32 ((a0) % 4294967296), .int .u32 ((a0 / 4294967296) % 4294967296)]) (ok := fun _ => True) (okp := fun _ => True) ?hr ?hp (fun _ hk => hk) trivial (Below.refl _ _) (Nat.le_refl _) (by simp) ?_; (case hd => rfl); (case hg => rfl); (case hr => first | (go_simp; done) | (go_simp; rfl)); (case hp => exact (Reps.one (show Kd.M (Kd.int .u32) _ _ _ ((a0) % 4294967296) [.int .u32 ((a0) % 4294967296)] from rfl) (Reps.one (show Kd.M (Kd.int .u32) _ _ _ ((a0 / 4294967296) % 4294967296) [.int .u32 ((a0 / 4294967296) % 4294967296)] from rfl) (Reps.none _ _)))); intro v171 w3 ho4 hb hg_ hnew_; clear hg_ hnew_; (first | rw [← Ny170.out] at ho4 | (simp only [Int.reduceToNat] at ho4; rw [← Ny170.out] at ho4)); have HO172 := am (Kd.R_lower (Kd.R_newM (M := fun k_ => (w.heap.size ≤ k_)) ho4 (below_size pB) (fun k_ h_ => h_)) (below_size pB)); replace HB := am (below_step pB hb); clear hb ho4; obtain ⟨Ao5, co5, eo5⟩ := Kd.R_slice HO172.out; subst eo5) | ((with_reducible refine gate_callee (f := 64) rfl ?_); refine goesL_ (some 9) rfl rfl Tryd.func64 (by kernel_rfl) rfl #[.slice Ao5 y170.length co5] rfl pM ?_; (with_reducible refine (dec_big_trim.calls k (fun k_ => some k_ = (.slice Ao5 y170.length co5 : Value).ownBlock) _ _ y170 t173 _ ?side1 A2.out).mono ?_); (case side1 => exact Kd.R_V (Kd.R_tight rfl (HO172.out))); rintro e w6 ⟨v174, rfl, ho0, hb⟩; refine ⟨_, rfl, ?_⟩; have HO175 := am (Kd.V_lower (Kd.V_mono (ok' := fun k_ => (w.heap.size ≤ k_)) ho0 (fun k_ hk_ => Or.elim hk_ (fun hs_ => ((HO172.out).1 k_ hs_.symm).1) (fun hn_ => (Nat.le_trans (below_size pB) hn_)))) (below_size pB)); replace HO172 := am (Kd.R_below (pR HO172.out) hb); replace HB := am (below_step pB hb); (try clear hb); (try clear ho0)))
 go_ret
 exact ⟨_, pE, by (with_reducible repeat (first | apply Kd.V_alloc | apply Kd.V_drewN | apply Kd.V_drew)); exact HO175.out, pB⟩
end Go.Proofs.YtflcanpajgpghaaDoor.Pr
end
section
namespace Go.Proofs.YtflcanpajgpghaaDoor.Pr
open Go.RowKit Go.Proofs.YtflcanpajgpghaaDoorW.PrintWords Go.Proofs.YtflcanpajgpghaaDoorW.PrintLast Go.Proofs.YtflcanpajgpghaaDoorW.PrintMore
attribute [local go_sem] max2_int min2_int max_two min_two max_three min_three max_four min_four
mutual
def dec_spans.j0 : Nat → Int → Int → Bool → List Int → List Int → List Int → List Int → Option (List Int × List Int × List Int × List Int)
 | 0, _, _, _, _, _, _, _ => none
 | k + 1, x4, x5, x25, x196000, x196001, x196002, x196003 => if x25 = true then ((dec_of.f k x5).bind fun t196 => ((dec_big_up.f k t196 2).bind fun t199 => ((dec_of.f k 4).bind fun t202 => ((dec_of.f k 1).bind fun t205 => ((dec_of.f k 2).bind fun t208 => (dec_spans.j1 k x4 t199 t202 t205 t208)))))) else (dec_spans.j1 k x4 x196000 x196001 x196002 x196003)
def dec_spans.j1 : Nat → Int → List Int → List Int → List Int → List Int → Option (List Int × List Int × List Int × List Int)
 | 0, _, _, _, _, _ => none
 | k + 1, x4, x196000, x196001, x196002, x196003 => if x4 ≥ 0 then ((dec_big_up.f k x196000 x4).bind fun t211 => ((dec_big_up.f k x196002 x4).bind fun t214 => ((dec_big_up.f k x196003 x4).bind fun t217 => (some (t211, x196001, t214, t217))))) else ((dec_big_up.f k x196001 (wrap64 (-x4))).bind fun t220 => (some (x196000, t220, x196002, x196003)))
end
def dec_spans.f (k : Nat) (a0 : Int) : Option (List Int × List Int × List Int × List Int) := (flo_Parts.f a0).bind fun bt177 => ((dec_of.f k bt177.2.2).bind fun t180 => ((dec_big_up.f k t180 1).bind fun t183 => ((dec_of.f k 2).bind fun t186 => ((dec_of.f k 1).bind fun t189 => ((dec_of.f k 1).bind fun t192 => (if bt177.2.2 = 4503599627370496 then (dec_spans.j0 k bt177.2.1 bt177.2.2 (decide (bt177.2.1 > (-1074))) t183 t186 t189 t192) else (dec_spans.j0 k bt177.2.1 bt177.2.2 false t183 t186 t189 t192)))))))
theorem dec_spans.mono_l : ∀ k, (∀ y0 y1 y2 y3 y4 y5 y6, LeO (dec_spans.j0 k y0 y1 y2 y3 y4 y5 y6) (dec_spans.j0 (k + 1) y0 y1 y2 y3 y4 y5 y6)) ∧ (∀ y0 y1 y2 y3 y4, LeO (dec_spans.j1 k y0 y1 y2 y3 y4) (dec_spans.j1 (k + 1) y0 y1 y2 y3 y4))
 | 0 => ⟨fun _ _ _ _ _ _ _ r h => by simp [dec_spans.j0] at h, fun _ _ _ _ _ r h => by simp [dec_spans.j1] at h⟩
 | k + 1 => by
  obtain ⟨ih0, ih1⟩ := dec_spans.mono_l k
  refine ⟨?_, ?_⟩
  all_goals intros
  all_goals first | unfold dec_spans.j0 | unfold dec_spans.j1
  all_goals repeat' first
   | (with_reducible exact ih0 _ _ _ _ _ _ _)
   | (with_reducible exact ih1 _ _ _ _ _)
   | (with_reducible exact dec_big_up.mono _ _ _)
   | (with_reducible exact dec_of.mono _ _)
   | (with_reducible exact LeO.refl _)
   | (with_reducible exact LeO.none _)
   | (with_reducible refine LeO.ite ?_ ?_)
   | (with_reducible refine LeO.bind ?_ (fun _ => ?_))
   | exact ih0 _ _ _ _ _ _ _
   | exact ih1 _ _ _ _ _
   | exact dec_big_up.mono _ _ _
   | exact dec_of.mono _ _
   | exact LeO.none _
   | refine LeO.ite ?_ ?_
   | refine LeO.bind ?_ (fun _ => ?_)
theorem dec_spans.mono : ∀ a0 k, LeO (dec_spans.f k a0) (dec_spans.f (k + 1) a0) := by
 intro a0 k
 obtain ⟨ih0, ih1⟩ := dec_spans.mono_l k
 unfold dec_spans.f
 repeat' first
   | (with_reducible exact ih0 _ _ _ _ _ _ _)
   | (with_reducible exact ih1 _ _ _ _ _)
   | (with_reducible exact dec_big_up.mono _ _ _)
   | (with_reducible exact dec_of.mono _ _)
   | (with_reducible exact LeO.refl _)
   | (with_reducible exact LeO.none _)
   | (with_reducible refine LeO.ite ?_ ?_)
   | (with_reducible refine LeO.bind ?_ (fun _ => ?_))
   | exact ih0 _ _ _ _ _ _ _
   | exact ih1 _ _ _ _ _
   | exact dec_big_up.mono _ _ _
   | exact dec_of.mono _ _
   | exact LeO.none _
   | refine LeO.ite ?_ ?_
   | refine LeO.bind ?_ (fun _ => ?_)
def dec_spans.T6 : Bool × List (List Nat × List Nat) := (true, [([], []), ([0], [0]), ([], []), ([1, 2], [1, 2]), ([], []), ([4], [4]), ([], []), ([5, 6, 3], [5, 6]), ([], []), ([8], [8]), ([], []), ([9, 10, 7], [9, 10]), ([0, 1, 2, 3, 4, 5, 8, 9], []), ([12, 3, 11, 0, 1, 2, 3, 4, 5, 8, 9], [3, 12]), ([0, 1, 2, 3, 4, 5, 6, 7, 8, 9, 12, 13], []), ([14, 7, 13, 0, 1, 2, 3, 4, 5, 6, 7, 8, 9, 12, 13], [7, 14]), ([0, 1, 2, 3, 4, 5, 6, 7, 8, 9, 10, 11, 12, 13, 14, 15], []), ([16, 11, 15, 0, 1, 2, 3, 4, 5, 6, 7, 8, 9, 10, 11, 12, 13, 14, 15], [11, 16])])
def dec_spans.B6 : List Nat := [0, 1, 0, 7, 0, 16, 0, 127, 0, 256, 0, 2047, 831, 8191, 16383, 32767, 65535, 131071]
theorem dec_spans.tab6 : rtab .any (opsOf Tryd.f32 6) = dec_spans.T6 := by kernel_rfl
theorem dec_spans.bits6 : waitsOk dec_spans.T6.2 dec_spans.B6 = true := by kernel_rfl
set_option maxHeartbeats 8000000 in
set_option maxRecDepth 100000 in
theorem dec_spans.calls (k : Nat) (a0 : Int) (r1 : List Int) (r2 : List Int) (r3 : List Int) (r4 : List Int) (w : World) (h : dec_spans.f k a0 = some (r1, r2, r3, r4)) :
  Calls Tryd.prog 32 #[.int .u64 a0] w fun e w' => ∃ v0_ v1_ v2_ v3_ : Value, e = .returned (.agg #[v0_, v1_, v2_, v3_]) ∧ Kd.R (Kd.int .u32) 74 w' w.heap.size (fun k_ => (w.heap.size ≤ k_)) v0_ r1 ∧ Kd.V (Kd.int .u32) 74 w' w.heap.size (fun k_ => (w.heap.size ≤ k_) ∧ some k_ ≠ (v0_ : Value).ownBlock) v1_ r2 ∧ Kd.V (Kd.int .u32) 74 w' w.heap.size (fun k_ => (w.heap.size ≤ k_) ∧ some k_ ≠ (v0_ : Value).ownBlock) v2_ r3 ∧ Kd.V (Kd.int .u32) 74 w' w.heap.size (fun k_ => (w.heap.size ≤ k_) ∧ some k_ ≠ (v0_ : Value).ownBlock) v3_ r4 ∧ Below w.heap.size w w' := by
 have hu66 := Tryd.underlying66
 have HB := am (Below.refl w.heap.size w)
 have H : ((flo_Parts.f a0).bind fun bt177 => ((dec_of.f k bt177.2.2).bind fun t180 => ((dec_big_up.f k t180 1).bind fun t183 => ((dec_of.f k 2).bind fun t186 => ((dec_of.f k 1).bind fun t189 => ((dec_of.f k 1).bind fun t192 => (if bt177.2.2 = 4503599627370496 then (dec_spans.j0 k bt177.2.1 bt177.2.2 (decide (bt177.2.1 > (-1074))) t183 t186 t189 t192) else (dec_spans.j0 k bt177.2.1 bt177.2.2 false t183 t186 t189 t192)))))))) = some (r1, r2, r3, r4) := h
 clear h
 replace H := Option.bind_eq_some_iff.mp H
 obtain ⟨⟨t177, t178, t179⟩, A20, H⟩ := H
 try dsimp only at H
 have A2 := am A20
 clear A20
 replace H := Option.bind_eq_some_iff.mp H
 obtain ⟨t180, A30, H⟩ := H
 try dsimp only at H
 have A3 := am A30
 clear A30
 replace H := Option.bind_eq_some_iff.mp H
 obtain ⟨t183, A40, H⟩ := H
 try dsimp only at H
 have A4 := am A40
 clear A40
 replace H := Option.bind_eq_some_iff.mp H
 obtain ⟨t186, A50, H⟩ := H
 try dsimp only at H
 have A5 := am A50
 clear A50
 replace H := Option.bind_eq_some_iff.mp H
 obtain ⟨t189, A60, H⟩ := H
 try dsimp only at H
 have A6 := am A60
 clear A60
 replace H := Option.bind_eq_some_iff.mp H
 obtain ⟨t192, A70, H⟩ := H
 try dsimp only at H
 have A7 := am A70
 clear A70
 have HC8 := am H
 clear H
 go_enter Tryd.func32, Tryd.ntmps32
 go_upto_region 3 with (first | ((with_reducible refine gate_dst (N := 2) rfl ?_); refine box_event ?hg (N := 2) ?hd (cs := #[.slice none 0 0, .slice none 0 0, .slice none 0 0, .slice none 0 0]) (t := 66) ?hr ?_; (case hd => rfl); (case hg => rfl); (case hr => first | (go_simp; done) | (go_simp; rfl)); intro gb176 hg w9 hbox hb; have BK176 := am (hbox); have GW176 := am ((by rw [hg]; exact (below_size pB) : w.heap.size ≤ gb176)); have GE176 := am ((by rw [hg]; exact (below_size pB) : w.heap.size ≤ gb176)); replace HB := am (below_step pB hb); clear hb hbox hg) | ((with_reducible refine gate_callee (f := 62) rfl ?_); refine goesL_ (some 9) rfl rfl Tryd.func62 (by kernel_rfl) rfl #[.int .u64 a0] rfl pM ?_; (with_reducible refine (flo_Parts.calls a0 t177 t178 t179 _ A2.out).mono ?_); rintro e w' ⟨rfl, ⟨nd, rfl⟩⟩; refine ⟨_, rfl, ?_⟩; (try (rw [drewN_self w9]; generalize hq_ : World.drewN w9 _ = w9; have n0_ : Aside0 (w9.heap[gb176]? = some (.cells #[.slice none 0 0, .slice none 0 0, .slice none 0 0, .slice none 0 0] 66 (0, 0))) := ⟨by rw [← hq_]; exact (pK BK176.out)⟩; have n1_ : Aside0 (Below w.heap.size w w9) := ⟨by rw [← hq_]; exact pB⟩; clear BK176 HB hq_; have BK176 := n0_; have HB := n1_; clear n0_ n1_))) | ((with_reducible refine gate_callee (f := 63) rfl ?_); refine goesL_ (some 14) rfl rfl Tryd.func63 (by kernel_rfl) rfl #[.int .u64 t179] rfl pM ?_; (with_reducible refine (dec_of.calls k t179 t180 _ A3.out).mono ?_); rintro e w10 ⟨v181, rfl, ho0, hb⟩; refine ⟨_, rfl, ?_⟩; have HO182 := am (Kd.V_lower (Kd.V_mono (ok' := fun k_ => (w.heap.size ≤ k_) ∧ k_ ≠ gb176) ho0 (fun k_ hk_ => ⟨(Nat.le_trans (below_size pB) hk_), (Kd.freshB (g := gb176) (o := .cells #[.slice none 0 0, .slice none 0 0, .slice none 0 0, .slice none 0 0] 66 (0, 0)) (pK BK176.out) k_ hk_)⟩)) (below_size pB)); replace BK176 := am (pkb BK176.out hb); replace HB := am (below_step pB hb); (try clear hb); (try clear ho0); obtain ⟨Ao11, co11, eo11⟩ := Kd.V_slice HO182.out; subst eo11) | ((with_reducible refine gate_callee (f := 40) rfl ?_); refine goesL_ (some 15) rfl rfl Tryd.func40 (by kernel_rfl) rfl #[.slice Ao11 t180.length co11, .int .i64 1] rfl pM ?_; (with_reducible refine (dec_big_up.calls k _ _ t180 1 t183 _ ?side1 ?side2 A4.out).mono ?_); (case side1 => repeat (first | exact (Kd.V_reads' HO182.out).2.2 | (with_reducible refine Kd.C_alloc ?_ _) | (with_reducible refine Kd.C_drewN ?_ _) | (with_reducible refine Kd.C_drew ?_))); (case side2 => exact (Kd.V_reads' HO182.out).2.1); rintro e w12 ⟨v184, rfl, ho0, hb⟩; refine ⟨_, rfl, ?_⟩; replace HO182 := am (Kd.V_elder' (pV HO182.out) (Kd.R_base ho0) hb); have HO185 := am (Kd.R_lower (Kd.R_newM (M := fun k_ => (w.heap.size ≤ k_)) ho0 (below_size pB) (fun k_ h_ => h_)) (below_size pB)); replace BK176 := am (pkb BK176.out hb); replace HB := am (below_step pB hb); (try clear hb); (try clear ho0)) | ((with_reducible refine gate_callee (f := 63) rfl ?_); refine goesL_ (some 16) rfl rfl Tryd.func63 (by kernel_rfl) rfl #[.int .u64 2] rfl pM ?_; (with_reducible refine (dec_of.calls k 2 t186 _ A5.out).mono ?_); rintro e w13 ⟨v187, rfl, ho0, hb⟩; refine ⟨_, rfl, ?_⟩; replace HO182 := am (Kd.V_below (pV HO182.out) hb); have HO188 := am (Kd.V_lower (Kd.V_mono (ok' := fun k_ => (w.heap.size ≤ k_) ∧ some k_ ≠ (v184 : Value).ownBlock ∧ k_ ≠ gb176) ho0 (fun k_ hk_ => ⟨(Nat.le_trans (below_size pB) hk_), (Kd.fresh' (Kd.R_lt (pR HO185.out)) k_ hk_), (Kd.freshB (g := gb176) (o := .cells #[.slice none 0 0, .slice none 0 0, .slice none 0 0, .slice none 0 0] 66 (0, 0)) (pK BK176.out) k_ hk_)⟩)) (below_size pB)); replace HO185 := am (Kd.R_below (pR HO185.out) hb); replace BK176 := am (pkb BK176.out hb); replace HB := am (below_step pB hb); (try clear hb); (try clear ho0)) | ((with_reducible refine gate_callee (f := 63) rfl ?_); refine goesL_ (some 17) rfl rfl Tryd.func63 (by kernel_rfl) rfl #[.int .u64 1] rfl pM ?_; (with_reducible refine (dec_of.calls k 1 t189 _ A6.out).mono ?_); rintro e w14 ⟨v190, rfl, ho0, hb⟩; refine ⟨_, rfl, ?_⟩; replace HO182 := am (Kd.V_below (pV HO182.out) hb); replace HO188 := am (Kd.V_below (pV HO188.out) hb); have HO191 := am (Kd.V_lower (Kd.V_mono (ok' := fun k_ => (w.heap.size ≤ k_) ∧ some k_ ≠ (v184 : Value).ownBlock ∧ k_ ≠ gb176) ho0 (fun k_ hk_ => ⟨(Nat.le_trans (below_size pB) hk_), (Kd.fresh' (Kd.R_lt (pR HO185.out)) k_ hk_), (Kd.freshB (g := gb176) (o := .cells #[.slice none 0 0, .slice none 0 0, .slice none 0 0, .slice none 0 0] 66 (0, 0)) (pK BK176.out) k_ hk_)⟩)) (below_size pB)); replace HO185 := am (Kd.R_below (pR HO185.out) hb); replace BK176 := am (pkb BK176.out hb); replace HB := am (below_step pB hb); (try clear hb); (try clear ho0)) | ((with_reducible refine gate_callee (f := 63) rfl ?_); refine goesL_ (some 18) rfl rfl Tryd.func63 (by kernel_rfl) rfl #[.int .u64 1] rfl pM ?_; (with_reducible refine (dec_of.calls k 1 t192 _ A7.out).mono ?_); rintro e w15 ⟨v193, rfl, ho0, hb⟩; refine ⟨_, rfl, ?_⟩; replace HO182 := am (Kd.V_below (pV HO182.out) hb); replace HO188 := am (Kd.V_below (pV HO188.out) hb); replace HO191 := am (Kd.V_below (pV HO191.out) hb); have HO194 := am (Kd.V_lower (Kd.V_mono (ok' := fun k_ => (w.heap.size ≤ k_) ∧ some k_ ≠ (v184 : Value).ownBlock ∧ k_ ≠ gb176) ho0 (fun k_ hk_ => ⟨(Nat.le_trans (below_size pB) hk_), (Kd.fresh' (Kd.R_lt (pR HO185.out)) k_ hk_), (Kd.freshB (g := gb176) (o := .cells #[.slice none 0 0, .slice none 0 0, .slice none 0 0, .slice none 0 0] 66 (0, 0)) (pK BK176.out) k_ hk_)⟩)) (below_size pB)); replace HO185 := am (Kd.R_below (pR HO185.out) hb); replace BK176 := am (pkb BK176.out hb); replace HB := am (below_step pB hb); (try clear hb); (try clear ho0); obtain ⟨Ao16, co16, eo16⟩ := Kd.V_slice HO194.out; subst eo16; obtain ⟨Ao17, co17, eo17⟩ := Kd.V_slice HO191.out; subst eo17; obtain ⟨Ao18, co18, eo18⟩ := Kd.V_slice HO188.out; subst eo18; obtain ⟨Ao19, co19, eo19⟩ := Kd.R_slice HO185.out; subst eo19) | ((with_reducible refine gate_dst (N := 6) rfl ?_); refine box_event ?hg (N := 6) ?hd (cs := #[.slice none 0 0, .slice none 0 0, .slice none 0 0, .slice none 0 0]) (t := 66) ?hr ?_; (case hd => rfl); (case hg => rfl); (case hr => first | (go_simp; done) | (go_simp; rfl)); intro gb195 hg w20 hbox hb; replace HO182 := am (Kd.V_below (Kd.V_elderB (pV HO182.out) gb195 (Nat.le_of_eq hg.symm)) hb); replace HO185 := am (Kd.R_below (pR HO185.out) hb); replace HO188 := am (Kd.V_below (Kd.V_elderB (pV HO188.out) gb195 (Nat.le_of_eq hg.symm)) hb); replace HO191 := am (Kd.V_below (Kd.V_elderB (pV HO191.out) gb195 (Nat.le_of_eq hg.symm)) hb); replace HO194 := am (Kd.V_below (Kd.V_elderB (pV HO194.out) gb195 (Nat.le_of_eq hg.symm)) hb); have BK195 := am (hbox); have GW195 := am ((by rw [hg]; exact (below_size pB) : w.heap.size ≤ gb195)); have GE195 := am ((by rw [hg]; exact (below_size pB) : w.heap.size ≤ gb195)); have NB176_195 := am ((by rw [hg]; exact Nat.ne_of_lt (pkl BK176.out) : gb176 ≠ gb195)); have NB195_176 := am ((by rw [hg]; exact Nat.ne_of_gt (pkl BK176.out) : gb195 ≠ gb176)); replace BK176 := am (pkb BK176.out hb); replace HB := am (below_step pB hb); clear hb hbox hg; have hnb21 := NB195_176.out; have hnc21 := NB176_195.out; have q22 := cf4 BK195.out))
 (try simp only [Act.put, List.setIfInBounds_toArray, List.set_cons_zero, List.set_cons_succ])
 go_cut [25] (fun v25 wc => ∃ (kq : Nat) (x25_7 : Bool), v25 = .bool x25_7 ∧ Aside0 (dec_spans.j0 kq t178 t179 x25_7 t183 t186 t189 t192 = some (r1, r2, r3, r4)) ∧ Aside0 (kq ≤ k) ∧ Aside0 (Kd.R (Kd.int .u32) 74 wc w.heap.size (fun k_ => (w.heap.size ≤ k_)) (.slice Ao19 t183.length co19) t183) ∧ Aside0 (Kd.V (Kd.int .u32) 74 wc w.heap.size (fun k_ => (w.heap.size ≤ k_) ∧ some k_ ≠ ((.slice Ao19 t183.length co19) : Value).ownBlock ∧ k_ ≠ gb176 ∧ k_ ≠ gb195) (.slice Ao18 t186.length co18) t186) ∧ Aside0 (Kd.V (Kd.int .u32) 74 wc w.heap.size (fun k_ => (w.heap.size ≤ k_) ∧ some k_ ≠ ((.slice Ao19 t183.length co19) : Value).ownBlock ∧ k_ ≠ gb176 ∧ k_ ≠ gb195) (.slice Ao17 t189.length co17) t189) ∧ Aside0 (Kd.V (Kd.int .u32) 74 wc w.heap.size (fun k_ => (w.heap.size ≤ k_) ∧ some k_ ≠ ((.slice Ao19 t183.length co19) : Value).ownBlock ∧ k_ ≠ gb176 ∧ k_ ≠ gb195) (.slice Ao16 t192.length co16) t192) ∧ Aside0 (wc.heap[gb176]? = some (.cells #[(.slice none 0 0), (.slice none 0 0), (.slice none 0 0), (.slice none 0 0)] 66 (0, 0))) ∧ Aside0 (wc.heap[gb195]? = some (.cells #[(.slice Ao19 t183.length co19), (.slice Ao18 t186.length co18), (.slice Ao17 t189.length co17), (.slice Ao16 t192.length co16)] 66 (0, 0))) ∧ Aside0 (Below w.heap.size w wc))
 case first =>
  have H := HC8.out
  clear HC8
  by_cases c23 : t179 = 4503599627370496
  ·rw [if_pos c23] at H
   have c23b0 : (t179 == 4503599627370496) = true := beq_iff_eq.mpr c23
   have c23b1 : (t179 != 4503599627370496) = false := bne_eq_false_iff_eq.mpr c23
   clear c23
   (first | rw [c23b0] | (simp only [i64_w, i32_w]; rw [c23b0]) | rw [c23b1] | (simp only [i64_w, i32_w]; rw [c23b1]) | skip)
   have H' := am H
   clear H
   go_wp2
   go_meet
   case rel => exact ⟨_, (decide (t178 > (-1074))), (by first | rfl | (simp; done) | (simp [*]; done)), H', ⟨by first | omega | exact Nat.le_refl _⟩, ⟨by (with_reducible repeat (first | apply Kd.R_alloc | apply Kd.R_drewN | apply Kd.R_drew)); exact Kd.R_mono (Kd.R_far (p := ⟨gb195, 3, none⟩) (Kd.R_far (p := ⟨gb195, 2, none⟩) (Kd.R_far (p := ⟨gb195, 1, none⟩) (Kd.R_far (p := ⟨gb195, 0, none⟩) (Kd.R_types HO185.out BK195.out (by decide)) (fun _ hk => hk.2) (.slice Ao19 t183.length co19)) (fun _ hk => hk.2) (.slice Ao18 t186.length co18)) (fun _ hk => hk.2) (.slice Ao17 t189.length co17)) (fun _ hk => hk.2) (.slice Ao16 t192.length co16)) (fun _ hk => hk.1.1)⟩, ⟨by (with_reducible repeat (first | apply Kd.V_alloc | apply Kd.V_drewN | apply Kd.V_drew)); exact Kd.V_mono (Kd.V_far (p := ⟨gb195, 3, none⟩) (Kd.V_far (p := ⟨gb195, 2, none⟩) (Kd.V_far (p := ⟨gb195, 1, none⟩) (Kd.V_far (p := ⟨gb195, 0, none⟩) (Kd.V_mono HO188.out (fun k_ hk => (⟨hk, hk.2⟩ : _ ∧ k_ ≠ gb195))) (fun _ hk => hk.2) (.slice Ao19 t183.length co19)) (fun _ hk => hk.2) (.slice Ao18 t186.length co18)) (fun _ hk => hk.2) (.slice Ao17 t189.length co17)) (fun _ hk => hk.2) (.slice Ao16 t192.length co16)) (fun _ hk => ⟨hk.1.1.1, ⟨hk.1.1.2.1, ⟨hk.1.1.2.2, hk.1.2⟩⟩⟩)⟩, ⟨by (with_reducible repeat (first | apply Kd.V_alloc | apply Kd.V_drewN | apply Kd.V_drew)); exact Kd.V_mono (Kd.V_far (p := ⟨gb195, 3, none⟩) (Kd.V_far (p := ⟨gb195, 2, none⟩) (Kd.V_far (p := ⟨gb195, 1, none⟩) (Kd.V_far (p := ⟨gb195, 0, none⟩) (Kd.V_mono HO191.out (fun k_ hk => (⟨hk, hk.2⟩ : _ ∧ k_ ≠ gb195))) (fun _ hk => hk.2) (.slice Ao19 t183.length co19)) (fun _ hk => hk.2) (.slice Ao18 t186.length co18)) (fun _ hk => hk.2) (.slice Ao17 t189.length co17)) (fun _ hk => hk.2) (.slice Ao16 t192.length co16)) (fun _ hk => ⟨hk.1.1.1, ⟨hk.1.1.2.1, ⟨hk.1.1.2.2, hk.1.2⟩⟩⟩)⟩, ⟨by (with_reducible repeat (first | apply Kd.V_alloc | apply Kd.V_drewN | apply Kd.V_drew)); exact Kd.V_mono (Kd.V_far (p := ⟨gb195, 3, none⟩) (Kd.V_far (p := ⟨gb195, 2, none⟩) (Kd.V_far (p := ⟨gb195, 1, none⟩) (Kd.V_far (p := ⟨gb195, 0, none⟩) (Kd.V_mono HO194.out (fun k_ hk => (⟨hk, hk.2⟩ : _ ∧ k_ ≠ gb195))) (fun _ hk => hk.2) (.slice Ao19 t183.length co19)) (fun _ hk => hk.2) (.slice Ao18 t186.length co18)) (fun _ hk => hk.2) (.slice Ao17 t189.length co17)) (fun _ hk => hk.2) (.slice Ao16 t192.length co16)) (fun _ hk => ⟨hk.1.1.1, ⟨hk.1.1.2.1, ⟨hk.1.1.2.2, hk.1.2⟩⟩⟩)⟩, ⟨by (with_reducible repeat (first | refine blk_drewN ?_ _ | refine blk_drew ?_ | refine blk_alloc ?_ _)); refine blk_far ?_ NB176_195.out _; (with_reducible repeat (first | refine blk_drewN ?_ _ | refine blk_drew ?_ | refine blk_alloc ?_ _)); refine blk_far ?_ NB176_195.out _; (with_reducible repeat (first | refine blk_drewN ?_ _ | refine blk_drew ?_ | refine blk_alloc ?_ _)); refine blk_far ?_ NB176_195.out _; (with_reducible repeat (first | refine blk_drewN ?_ _ | refine blk_drew ?_ | refine blk_alloc ?_ _)); refine blk_far ?_ NB176_195.out _; (with_reducible repeat (first | refine blk_drewN ?_ _ | refine blk_drew ?_ | refine blk_alloc ?_ _)); exact BK176.out⟩, ⟨by (with_reducible repeat (first | refine blk_drewN ?_ _ | refine blk_drew ?_ | refine blk_alloc ?_ _)); refine blk_put (cs := #[.slice Ao19 t183.length co19, .slice Ao18 t186.length co18, .slice Ao17 t189.length co17, .slice none 0 0]) ?_ 3 _ rfl; (with_reducible repeat (first | refine blk_drewN ?_ _ | refine blk_drew ?_ | refine blk_alloc ?_ _)); refine blk_put (cs := #[.slice Ao19 t183.length co19, .slice Ao18 t186.length co18, .slice none 0 0, .slice none 0 0]) ?_ 2 _ rfl; (with_reducible repeat (first | refine blk_drewN ?_ _ | refine blk_drew ?_ | refine blk_alloc ?_ _)); refine blk_put (cs := #[.slice Ao19 t183.length co19, .slice none 0 0, .slice none 0 0, .slice none 0 0]) ?_ 1 _ rfl; (with_reducible repeat (first | refine blk_drewN ?_ _ | refine blk_drew ?_ | refine blk_alloc ?_ _)); refine blk_put (cs := #[.slice none 0 0, .slice none 0 0, .slice none 0 0, .slice none 0 0]) ?_ 0 _ rfl; (with_reducible repeat (first | refine blk_drewN ?_ _ | refine blk_drew ?_ | refine blk_alloc ?_ _)); exact BK195.out⟩, ⟨pB⟩⟩
  ·rw [if_neg c23] at H
   have c23b0 : (t179 == 4503599627370496) = false := beq_eq_false_iff_ne.mpr c23
   have c23b1 : (t179 != 4503599627370496) = true := bne_iff_ne.mpr c23
   (first | rw [c23b0] | (simp only [i64_w, i32_w]; rw [c23b0]) | rw [c23b1] | (simp only [i64_w, i32_w]; rw [c23b1]) | skip)
   have H' := am H
   clear H
   go_wp2
   go_meet
   case rel => exact ⟨_, (false), (by first | rfl | (simp; done) | (simp [*]; done)), H', ⟨by first | omega | exact Nat.le_refl _⟩, ⟨by (with_reducible repeat (first | apply Kd.R_alloc | apply Kd.R_drewN | apply Kd.R_drew)); exact Kd.R_mono (Kd.R_far (p := ⟨gb195, 3, none⟩) (Kd.R_far (p := ⟨gb195, 2, none⟩) (Kd.R_far (p := ⟨gb195, 1, none⟩) (Kd.R_far (p := ⟨gb195, 0, none⟩) (Kd.R_types HO185.out BK195.out (by decide)) (fun _ hk => hk.2) (.slice Ao19 t183.length co19)) (fun _ hk => hk.2) (.slice Ao18 t186.length co18)) (fun _ hk => hk.2) (.slice Ao17 t189.length co17)) (fun _ hk => hk.2) (.slice Ao16 t192.length co16)) (fun _ hk => hk.1.1)⟩, ⟨by (with_reducible repeat (first | apply Kd.V_alloc | apply Kd.V_drewN | apply Kd.V_drew)); exact Kd.V_mono (Kd.V_far (p := ⟨gb195, 3, none⟩) (Kd.V_far (p := ⟨gb195, 2, none⟩) (Kd.V_far (p := ⟨gb195, 1, none⟩) (Kd.V_far (p := ⟨gb195, 0, none⟩) (Kd.V_mono HO188.out (fun k_ hk => (⟨hk, hk.2⟩ : _ ∧ k_ ≠ gb195))) (fun _ hk => hk.2) (.slice Ao19 t183.length co19)) (fun _ hk => hk.2) (.slice Ao18 t186.length co18)) (fun _ hk => hk.2) (.slice Ao17 t189.length co17)) (fun _ hk => hk.2) (.slice Ao16 t192.length co16)) (fun _ hk => ⟨hk.1.1.1, ⟨hk.1.1.2.1, ⟨hk.1.1.2.2, hk.1.2⟩⟩⟩)⟩, ⟨by (with_reducible repeat (first | apply Kd.V_alloc | apply Kd.V_drewN | apply Kd.V_drew)); exact Kd.V_mono (Kd.V_far (p := ⟨gb195, 3, none⟩) (Kd.V_far (p := ⟨gb195, 2, none⟩) (Kd.V_far (p := ⟨gb195, 1, none⟩) (Kd.V_far (p := ⟨gb195, 0, none⟩) (Kd.V_mono HO191.out (fun k_ hk => (⟨hk, hk.2⟩ : _ ∧ k_ ≠ gb195))) (fun _ hk => hk.2) (.slice Ao19 t183.length co19)) (fun _ hk => hk.2) (.slice Ao18 t186.length co18)) (fun _ hk => hk.2) (.slice Ao17 t189.length co17)) (fun _ hk => hk.2) (.slice Ao16 t192.length co16)) (fun _ hk => ⟨hk.1.1.1, ⟨hk.1.1.2.1, ⟨hk.1.1.2.2, hk.1.2⟩⟩⟩)⟩, ⟨by (with_reducible repeat (first | apply Kd.V_alloc | apply Kd.V_drewN | apply Kd.V_drew)); exact Kd.V_mono (Kd.V_far (p := ⟨gb195, 3, none⟩) (Kd.V_far (p := ⟨gb195, 2, none⟩) (Kd.V_far (p := ⟨gb195, 1, none⟩) (Kd.V_far (p := ⟨gb195, 0, none⟩) (Kd.V_mono HO194.out (fun k_ hk => (⟨hk, hk.2⟩ : _ ∧ k_ ≠ gb195))) (fun _ hk => hk.2) (.slice Ao19 t183.length co19)) (fun _ hk => hk.2) (.slice Ao18 t186.length co18)) (fun _ hk => hk.2) (.slice Ao17 t189.length co17)) (fun _ hk => hk.2) (.slice Ao16 t192.length co16)) (fun _ hk => ⟨hk.1.1.1, ⟨hk.1.1.2.1, ⟨hk.1.1.2.2, hk.1.2⟩⟩⟩)⟩, ⟨by (with_reducible repeat (first | refine blk_drewN ?_ _ | refine blk_drew ?_ | refine blk_alloc ?_ _)); refine blk_far ?_ NB176_195.out _; (with_reducible repeat (first | refine blk_drewN ?_ _ | refine blk_drew ?_ | refine blk_alloc ?_ _)); refine blk_far ?_ NB176_195.out _; (with_reducible repeat (first | refine blk_drewN ?_ _ | refine blk_drew ?_ | refine blk_alloc ?_ _)); refine blk_far ?_ NB176_195.out _; (with_reducible repeat (first | refine blk_drewN ?_ _ | refine blk_drew ?_ | refine blk_alloc ?_ _)); refine blk_far ?_ NB176_195.out _; (with_reducible repeat (first | refine blk_drewN ?_ _ | refine blk_drew ?_ | refine blk_alloc ?_ _)); exact BK176.out⟩, ⟨by (with_reducible repeat (first | refine blk_drewN ?_ _ | refine blk_drew ?_ | refine blk_alloc ?_ _)); refine blk_put (cs := #[.slice Ao19 t183.length co19, .slice Ao18 t186.length co18, .slice Ao17 t189.length co17, .slice none 0 0]) ?_ 3 _ rfl; (with_reducible repeat (first | refine blk_drewN ?_ _ | refine blk_drew ?_ | refine blk_alloc ?_ _)); refine blk_put (cs := #[.slice Ao19 t183.length co19, .slice Ao18 t186.length co18, .slice none 0 0, .slice none 0 0]) ?_ 2 _ rfl; (with_reducible repeat (first | refine blk_drewN ?_ _ | refine blk_drew ?_ | refine blk_alloc ?_ _)); refine blk_put (cs := #[.slice Ao19 t183.length co19, .slice none 0 0, .slice none 0 0, .slice none 0 0]) ?_ 1 _ rfl; (with_reducible repeat (first | refine blk_drewN ?_ _ | refine blk_drew ?_ | refine blk_alloc ?_ _)); refine blk_put (cs := #[.slice none 0 0, .slice none 0 0, .slice none 0 0, .slice none 0 0]) ?_ 0 _ rfl; (with_reducible repeat (first | refine blk_drewN ?_ _ | refine blk_drew ?_ | refine blk_alloc ?_ _)); exact BK195.out⟩, ⟨pB⟩⟩
 case rest =>
  clear HC8
  try clear c2
  try clear p2
  try clear c3
  try clear c4
  try clear c6
  try clear c21
  try clear c23
  try clear c23b0
  try clear c23b1
  try clear q22
  obtain ⟨kq, x25_7, rfl, HA, HJ7, HO_196000, HO_196001, HO_196002, HO_196003, BK176, BK195, HB⟩ := hcut
  cases kq with
  | zero => exact absurd HA.out (by simp [dec_spans.j0])
  | succ kj7 =>
   have H := HA.out
   clear HA
   simp only [dec_spans.j0] at H
   have HC24 := am H
   clear H
   go_upto_if 25 with (fail)
   go_cut [] (fun wc => ∃ (kq : Nat) (x196000_23 : List Int) (x196001_23 : List Int) (x196002_23 : List Int) (x196003_23 : List Int) (u196000 : Value) (u196001 : Value) (u196002 : Value) (u196003 : Value), Aside0 (dec_spans.j1 kq t178 x196000_23 x196001_23 x196002_23 x196003_23 = some (r1, r2, r3, r4)) ∧ Aside0 (kq ≤ kj7) ∧ Aside0 (Kd.R (Kd.int .u32) 74 wc w.heap.size (fun k_ => (w.heap.size ≤ k_)) u196000 x196000_23) ∧ Aside0 (Kd.V (Kd.int .u32) 74 wc w.heap.size (fun k_ => (w.heap.size ≤ k_) ∧ some k_ ≠ (u196000 : Value).ownBlock ∧ k_ ≠ gb176 ∧ k_ ≠ gb195) u196001 x196001_23) ∧ Aside0 (Kd.V (Kd.int .u32) 74 wc w.heap.size (fun k_ => (w.heap.size ≤ k_) ∧ some k_ ≠ (u196000 : Value).ownBlock ∧ k_ ≠ gb176 ∧ k_ ≠ gb195) u196002 x196002_23) ∧ Aside0 (Kd.V (Kd.int .u32) 74 wc w.heap.size (fun k_ => (w.heap.size ≤ k_) ∧ some k_ ≠ (u196000 : Value).ownBlock ∧ k_ ≠ gb176 ∧ k_ ≠ gb195) u196003 x196003_23) ∧ Aside0 (wc.heap[gb176]? = some (.cells #[(.slice none 0 0), (.slice none 0 0), (.slice none 0 0), (.slice none 0 0)] 66 (0, 0))) ∧ Aside0 (wc.heap[gb195]? = some (.cells #[u196000, u196001, u196002, u196003] 66 (0, 0))) ∧ Aside0 (Below w.heap.size w wc))
   case first =>
    have H := HC24.out
    clear HC24
    by_cases c25 : x25_7 = true
    ·subst c25
     rw [if_pos rfl] at H
     replace H := Option.bind_eq_some_iff.mp H
     obtain ⟨t196, A260, H⟩ := H
     try dsimp only at H
     have A26 := am A260
     clear A260
     replace H := Option.bind_eq_some_iff.mp H
     obtain ⟨t199, A270, H⟩ := H
     try dsimp only at H
     have A27 := am A270
     clear A270
     replace H := Option.bind_eq_some_iff.mp H
     obtain ⟨t202, A280, H⟩ := H
     try dsimp only at H
     have A28 := am A280
     clear A280
     replace H := Option.bind_eq_some_iff.mp H
     obtain ⟨t205, A290, H⟩ := H
     try dsimp only at H
     have A29 := am A290
     clear A290
     replace H := Option.bind_eq_some_iff.mp H
     obtain ⟨t208, A300, H⟩ := H
     try dsimp only at H
     have A30 := am A300
     clear A300
     have H' := am H
     clear H
     go_wp2_with (first | ((with_reducible refine gate_callee (f := 63) rfl ?_); refine goesL_ (some 27) rfl rfl Tryd.func63 (by kernel_rfl) rfl #[.int .u64 t179] rfl pM ?_; (with_reducible refine (dec_of.calls kj7 t179 t196 _ A26.out).mono ?_); rintro e w31 ⟨v197, rfl, ho0, hb⟩; refine ⟨_, rfl, ?_⟩; replace HO_196001 := am (Kd.V_below (pV HO_196001.out) hb); replace HO_196002 := am (Kd.V_below (pV HO_196002.out) hb); replace HO_196003 := am (Kd.V_below (pV HO_196003.out) hb); have HO198 := am (Kd.V_lower (Kd.V_mono (ok' := fun k_ => (w.heap.size ≤ k_) ∧ some k_ ≠ (.slice Ao19 t183.length co19 : Value).ownBlock ∧ k_ ≠ gb176 ∧ k_ ≠ gb195) ho0 (fun k_ hk_ => ⟨(Nat.le_trans (below_size pB) hk_), (Kd.fresh' (Kd.R_lt (pR HO_196000.out)) k_ hk_), (Kd.freshB (g := gb176) (o := .cells #[.slice none 0 0, .slice none 0 0, .slice none 0 0, .slice none 0 0] 66 (0, 0)) (pK BK176.out) k_ hk_), (Kd.freshB (g := gb195) (o := .cells #[.slice Ao19 t183.length co19, .slice Ao18 t186.length co18, .slice Ao17 t189.length co17, .slice Ao16 t192.length co16] 66 (0, 0)) (pK BK195.out) k_ hk_)⟩)) (below_size pB)); replace HO_196000 := am (Kd.R_below (pR HO_196000.out) hb); replace BK176 := am (pkb BK176.out hb); replace BK195 := am (pkb BK195.out hb); replace HB := am (below_step pB hb); (try clear hb); (try clear ho0); obtain ⟨Ao32, co32, eo32⟩ := Kd.V_slice HO198.out; subst eo32) | ((with_reducible refine gate_callee (f := 40) rfl ?_); refine goesL_ (some 28) rfl rfl Tryd.func40 (by kernel_rfl) rfl #[.slice Ao32 t196.length co32, .int .i64 2] rfl pM ?_; (with_reducible refine (dec_big_up.calls kj7 _ _ t196 2 t199 _ ?side1 ?side2 A27.out).mono ?_); (case side1 => repeat (first | exact (Kd.V_reads' HO198.out).2.2 | (with_reducible refine Kd.C_alloc ?_ _) | (with_reducible refine Kd.C_drewN ?_ _) | (with_reducible refine Kd.C_drew ?_))); (case side2 => exact (Kd.V_reads' HO198.out).2.1); rintro e w33 ⟨v200, rfl, ho0, hb⟩; refine ⟨_, rfl, ?_⟩; replace HO_196001 := am (Kd.V_elder' (pV HO_196001.out) (Kd.R_base ho0) hb); replace HO_196002 := am (Kd.V_elder' (pV HO_196002.out) (Kd.R_base ho0) hb); replace HO_196003 := am (Kd.V_elder' (pV HO_196003.out) (Kd.R_base ho0) hb); replace HO198 := am (Kd.V_elder' (pV HO198.out) (Kd.R_base ho0) hb); have HO201 := am (Kd.R_lower (Kd.R_new' (Kd.R_newM (M := fun k_ => (w.heap.size ≤ k_)) ho0 (below_size pB) (fun k_ h_ => h_)) (Kd.R_lt (pR HO_196000.out))) (below_size pB)); replace HO_196000 := am (Kd.R_elder' (pR HO_196000.out) (Kd.R_base ho0) hb); replace BK176 := am (pkb BK176.out hb); replace BK195 := am (pkb BK195.out hb); replace HB := am (below_step pB hb); (try clear hb); (try clear ho0)) | ((with_reducible refine gate_callee (f := 63) rfl ?_); refine goesL_ (some 29) rfl rfl Tryd.func63 (by kernel_rfl) rfl #[.int .u64 4] rfl pM ?_; (with_reducible refine (dec_of.calls kj7 4 t202 _ A28.out).mono ?_); rintro e w34 ⟨v203, rfl, ho0, hb⟩; refine ⟨_, rfl, ?_⟩; replace HO_196001 := am (Kd.V_below (pV HO_196001.out) hb); replace HO_196002 := am (Kd.V_below (pV HO_196002.out) hb); replace HO_196003 := am (Kd.V_below (pV HO_196003.out) hb); replace HO198 := am (Kd.V_below (pV HO198.out) hb); have HO204 := am (Kd.V_lower (Kd.V_mono (ok' := fun k_ => (w.heap.size ≤ k_) ∧ some k_ ≠ (.slice Ao19 t183.length co19 : Value).ownBlock ∧ some k_ ≠ (v200 : Value).ownBlock ∧ k_ ≠ gb176 ∧ k_ ≠ gb195) ho0 (fun k_ hk_ => ⟨(Nat.le_trans (below_size pB) hk_), (Kd.fresh' (Kd.R_lt (pR HO_196000.out)) k_ hk_), (Kd.fresh' (Kd.R_lt (pR HO201.out)) k_ hk_), (Kd.freshB (g := gb176) (o := .cells #[.slice none 0 0, .slice none 0 0, .slice none 0 0, .slice none 0 0] 66 (0, 0)) (pK BK176.out) k_ hk_), (Kd.freshB (g := gb195) (o := .cells #[.slice Ao19 t183.length co19, .slice Ao18 t186.length co18, .slice Ao17 t189.length co17, .slice Ao16 t192.length co16] 66 (0, 0)) (pK BK195.out) k_ hk_)⟩)) (below_size pB)); replace HO_196000 := am (Kd.R_below (pR HO_196000.out) hb); replace HO201 := am (Kd.R_below (pR HO201.out) hb); replace BK176 := am (pkb BK176.out hb); replace BK195 := am (pkb BK195.out hb); replace HB := am (below_step pB hb); (try clear hb); (try clear ho0)) | ((with_reducible refine gate_callee (f := 63) rfl ?_); refine goesL_ (some 30) rfl rfl Tryd.func63 (by kernel_rfl) rfl #[.int .u64 1] rfl pM ?_; (with_reducible refine (dec_of.calls kj7 1 t205 _ A29.out).mono ?_); rintro e w35 ⟨v206, rfl, ho0, hb⟩; refine ⟨_, rfl, ?_⟩; replace HO_196001 := am (Kd.V_below (pV HO_196001.out) hb); replace HO_196002 := am (Kd.V_below (pV HO_196002.out) hb); replace HO_196003 := am (Kd.V_below (pV HO_196003.out) hb); replace HO198 := am (Kd.V_below (pV HO198.out) hb); replace HO204 := am (Kd.V_below (pV HO204.out) hb); have HO207 := am (Kd.V_lower (Kd.V_mono (ok' := fun k_ => (w.heap.size ≤ k_) ∧ some k_ ≠ (.slice Ao19 t183.length co19 : Value).ownBlock ∧ some k_ ≠ (v200 : Value).ownBlock ∧ k_ ≠ gb176 ∧ k_ ≠ gb195) ho0 (fun k_ hk_ => ⟨(Nat.le_trans (below_size pB) hk_), (Kd.fresh' (Kd.R_lt (pR HO_196000.out)) k_ hk_), (Kd.fresh' (Kd.R_lt (pR HO201.out)) k_ hk_), (Kd.freshB (g := gb176) (o := .cells #[.slice none 0 0, .slice none 0 0, .slice none 0 0, .slice none 0 0] 66 (0, 0)) (pK BK176.out) k_ hk_), (Kd.freshB (g := gb195) (o := .cells #[.slice Ao19 t183.length co19, .slice Ao18 t186.length co18, .slice Ao17 t189.length co17, .slice Ao16 t192.length co16] 66 (0, 0)) (pK BK195.out) k_ hk_)⟩)) (below_size pB)); replace HO_196000 := am (Kd.R_below (pR HO_196000.out) hb); replace HO201 := am (Kd.R_below (pR HO201.out) hb); replace BK176 := am (pkb BK176.out hb); replace BK195 := am (pkb BK195.out hb); replace HB := am (below_step pB hb); (try clear hb); (try clear ho0)) | ((with_reducible refine gate_callee (f := 63) rfl ?_); refine goesL_ (some 31) rfl rfl Tryd.func63 (by kernel_rfl) rfl #[.int .u64 2] rfl pM ?_; (with_reducible refine (dec_of.calls kj7 2 t208 _ A30.out).mono ?_); rintro e w36 ⟨v209, rfl, ho0, hb⟩; refine ⟨_, rfl, ?_⟩; replace HO_196001 := am (Kd.V_below (pV HO_196001.out) hb); replace HO_196002 := am (Kd.V_below (pV HO_196002.out) hb); replace HO_196003 := am (Kd.V_below (pV HO_196003.out) hb); replace HO198 := am (Kd.V_below (pV HO198.out) hb); replace HO204 := am (Kd.V_below (pV HO204.out) hb); replace HO207 := am (Kd.V_below (pV HO207.out) hb); have HO210 := am (Kd.V_lower (Kd.V_mono (ok' := fun k_ => (w.heap.size ≤ k_) ∧ some k_ ≠ (.slice Ao19 t183.length co19 : Value).ownBlock ∧ some k_ ≠ (v200 : Value).ownBlock ∧ k_ ≠ gb176 ∧ k_ ≠ gb195) ho0 (fun k_ hk_ => ⟨(Nat.le_trans (below_size pB) hk_), (Kd.fresh' (Kd.R_lt (pR HO_196000.out)) k_ hk_), (Kd.fresh' (Kd.R_lt (pR HO201.out)) k_ hk_), (Kd.freshB (g := gb176) (o := .cells #[.slice none 0 0, .slice none 0 0, .slice none 0 0, .slice none 0 0] 66 (0, 0)) (pK BK176.out) k_ hk_), (Kd.freshB (g := gb195) (o := .cells #[.slice Ao19 t183.length co19, .slice Ao18 t186.length co18, .slice Ao17 t189.length co17, .slice Ao16 t192.length co16] 66 (0, 0)) (pK BK195.out) k_ hk_)⟩)) (below_size pB)); replace HO_196000 := am (Kd.R_below (pR HO_196000.out) hb); replace HO201 := am (Kd.R_below (pR HO201.out) hb); replace BK176 := am (pkb BK176.out hb); replace BK195 := am (pkb BK195.out hb); replace HB := am (below_step pB hb); (try clear hb); (try clear ho0); obtain ⟨Ao37, co37, eo37⟩ := Kd.V_slice HO210.out; subst eo37; obtain ⟨Ao38, co38, eo38⟩ := Kd.V_slice HO207.out; subst eo38; obtain ⟨Ao39, co39, eo39⟩ := Kd.V_slice HO204.out; subst eo39; obtain ⟨Ao40, co40, eo40⟩ := Kd.R_slice HO201.out; subst eo40; have hnb41 := NB195_176.out; have hnc41 := NB176_195.out; have q42 := cf4 BK195.out))
     go_meet
     case rel => exact ⟨_, (t199), (t202), (t205), (t208), (.slice Ao40 t199.length co40), (.slice Ao39 t202.length co39), (.slice Ao38 t205.length co38), (.slice Ao37 t208.length co37), H', ⟨by have := HJ7.out; first | omega | exact Nat.le_refl _⟩, ⟨by (with_reducible repeat (first | apply Kd.R_alloc | apply Kd.R_drewN | apply Kd.R_drew)); exact Kd.R_mono (Kd.R_far (p := ⟨gb195, 3, none⟩) (Kd.R_far (p := ⟨gb195, 2, none⟩) (Kd.R_far (p := ⟨gb195, 1, none⟩) (Kd.R_far (p := ⟨gb195, 0, none⟩) (Kd.R_types HO201.out BK195.out (by decide)) (fun _ hk => hk.2) (.slice Ao40 t199.length co40)) (fun _ hk => hk.2) (.slice Ao39 t202.length co39)) (fun _ hk => hk.2) (.slice Ao38 t205.length co38)) (fun _ hk => hk.2) (.slice Ao37 t208.length co37)) (fun _ hk => hk.1.1.1)⟩, ⟨by (with_reducible repeat (first | apply Kd.V_alloc | apply Kd.V_drewN | apply Kd.V_drew)); exact Kd.V_mono (Kd.V_far (p := ⟨gb195, 3, none⟩) (Kd.V_far (p := ⟨gb195, 2, none⟩) (Kd.V_far (p := ⟨gb195, 1, none⟩) (Kd.V_far (p := ⟨gb195, 0, none⟩) (Kd.V_mono HO204.out (fun k_ hk => (⟨hk, hk.2.2.2.2⟩ : _ ∧ k_ ≠ gb195))) (fun _ hk => hk.2) (.slice Ao40 t199.length co40)) (fun _ hk => hk.2) (.slice Ao39 t202.length co39)) (fun _ hk => hk.2) (.slice Ao38 t205.length co38)) (fun _ hk => hk.2) (.slice Ao37 t208.length co37)) (fun _ hk => ⟨hk.1.1, ⟨hk.1.2.2.1, ⟨hk.1.2.2.2.1, hk.1.2.2.2.2⟩⟩⟩)⟩, ⟨by (with_reducible repeat (first | apply Kd.V_alloc | apply Kd.V_drewN | apply Kd.V_drew)); exact Kd.V_mono (Kd.V_far (p := ⟨gb195, 3, none⟩) (Kd.V_far (p := ⟨gb195, 2, none⟩) (Kd.V_far (p := ⟨gb195, 1, none⟩) (Kd.V_far (p := ⟨gb195, 0, none⟩) (Kd.V_mono HO207.out (fun k_ hk => (⟨hk, hk.2.2.2.2⟩ : _ ∧ k_ ≠ gb195))) (fun _ hk => hk.2) (.slice Ao40 t199.length co40)) (fun _ hk => hk.2) (.slice Ao39 t202.length co39)) (fun _ hk => hk.2) (.slice Ao38 t205.length co38)) (fun _ hk => hk.2) (.slice Ao37 t208.length co37)) (fun _ hk => ⟨hk.1.1, ⟨hk.1.2.2.1, ⟨hk.1.2.2.2.1, hk.1.2.2.2.2⟩⟩⟩)⟩, ⟨by (with_reducible repeat (first | apply Kd.V_alloc | apply Kd.V_drewN | apply Kd.V_drew)); exact Kd.V_mono (Kd.V_far (p := ⟨gb195, 3, none⟩) (Kd.V_far (p := ⟨gb195, 2, none⟩) (Kd.V_far (p := ⟨gb195, 1, none⟩) (Kd.V_far (p := ⟨gb195, 0, none⟩) (Kd.V_mono HO210.out (fun k_ hk => (⟨hk, hk.2.2.2.2⟩ : _ ∧ k_ ≠ gb195))) (fun _ hk => hk.2) (.slice Ao40 t199.length co40)) (fun _ hk => hk.2) (.slice Ao39 t202.length co39)) (fun _ hk => hk.2) (.slice Ao38 t205.length co38)) (fun _ hk => hk.2) (.slice Ao37 t208.length co37)) (fun _ hk => ⟨hk.1.1, ⟨hk.1.2.2.1, ⟨hk.1.2.2.2.1, hk.1.2.2.2.2⟩⟩⟩)⟩, ⟨by (with_reducible repeat (first | refine blk_drewN ?_ _ | refine blk_drew ?_ | refine blk_alloc ?_ _)); refine blk_far ?_ NB176_195.out _; (with_reducible repeat (first | refine blk_drewN ?_ _ | refine blk_drew ?_ | refine blk_alloc ?_ _)); refine blk_far ?_ NB176_195.out _; (with_reducible repeat (first | refine blk_drewN ?_ _ | refine blk_drew ?_ | refine blk_alloc ?_ _)); refine blk_far ?_ NB176_195.out _; (with_reducible repeat (first | refine blk_drewN ?_ _ | refine blk_drew ?_ | refine blk_alloc ?_ _)); refine blk_far ?_ NB176_195.out _; (with_reducible repeat (first | refine blk_drewN ?_ _ | refine blk_drew ?_ | refine blk_alloc ?_ _)); exact BK176.out⟩, ⟨by (with_reducible repeat (first | refine blk_drewN ?_ _ | refine blk_drew ?_ | refine blk_alloc ?_ _)); refine blk_put (cs := #[.slice Ao40 t199.length co40, .slice Ao39 t202.length co39, .slice Ao38 t205.length co38, .slice Ao16 t192.length co16]) ?_ 3 _ rfl; (with_reducible repeat (first | refine blk_drewN ?_ _ | refine blk_drew ?_ | refine blk_alloc ?_ _)); refine blk_put (cs := #[.slice Ao40 t199.length co40, .slice Ao39 t202.length co39, .slice Ao17 t189.length co17, .slice Ao16 t192.length co16]) ?_ 2 _ rfl; (with_reducible repeat (first | refine blk_drewN ?_ _ | refine blk_drew ?_ | refine blk_alloc ?_ _)); refine blk_put (cs := #[.slice Ao40 t199.length co40, .slice Ao18 t186.length co18, .slice Ao17 t189.length co17, .slice Ao16 t192.length co16]) ?_ 1 _ rfl; (with_reducible repeat (first | refine blk_drewN ?_ _ | refine blk_drew ?_ | refine blk_alloc ?_ _)); refine blk_put (cs := #[.slice Ao19 t183.length co19, .slice Ao18 t186.length co18, .slice Ao17 t189.length co17, .slice Ao16 t192.length co16]) ?_ 0 _ rfl; (with_reducible repeat (first | refine blk_drewN ?_ _ | refine blk_drew ?_ | refine blk_alloc ?_ _)); exact BK195.out⟩, ⟨pB⟩⟩
    ·replace c25 := Bool.eq_false_iff.mpr c25
     subst c25
     rw [if_neg (show ¬ (false = true) by decide)] at H
     have H' := am H
     clear H
     go_wp2
     go_meet
     case rel => exact ⟨_, (t183), (t186), (t189), (t192), (.slice Ao19 t183.length co19), (.slice Ao18 t186.length co18), (.slice Ao17 t189.length co17), (.slice Ao16 t192.length co16), H', ⟨by have := HJ7.out; first | omega | exact Nat.le_refl _⟩, ⟨by (with_reducible repeat (first | apply Kd.R_alloc | apply Kd.R_drewN | apply Kd.R_drew)); exact HO_196000.out⟩, ⟨by (with_reducible repeat (first | apply Kd.V_alloc | apply Kd.V_drewN | apply Kd.V_drew)); exact HO_196001.out⟩, ⟨by (with_reducible repeat (first | apply Kd.V_alloc | apply Kd.V_drewN | apply Kd.V_drew)); exact HO_196002.out⟩, ⟨by (with_reducible repeat (first | apply Kd.V_alloc | apply Kd.V_drewN | apply Kd.V_drew)); exact HO_196003.out⟩, ⟨by (with_reducible repeat (first | refine blk_drewN ?_ _ | refine blk_drew ?_ | refine blk_alloc ?_ _)); exact BK176.out⟩, ⟨by (with_reducible repeat (first | refine blk_drewN ?_ _ | refine blk_drew ?_ | refine blk_alloc ?_ _)); exact BK195.out⟩, ⟨pB⟩⟩
   case rest =>
    clear HC24
    try clear c2
    try clear p2
    try clear c3
    try clear c4
    try clear c6
    try clear c21
    try clear c23
    try clear c23b0
    try clear c23b1
    try clear c25
    try clear c32
    try clear c40
    try clear c41
    try clear q22 q42
    try clear p2
    obtain ⟨kq, x196000_23, x196001_23, x196002_23, x196003_23, u196000, u196001, u196002, u196003, HA, HJ23, HO_196000, HO_196001, HO_196002, HO_196003, BK176, BK195, HB⟩ := hcut
    cases kq with
    | zero => exact absurd HA.out (by simp [dec_spans.j1])
    | succ kj23 =>
     have H := HA.out
     clear HA
     simp only [dec_spans.j1] at H
     by_cases c43 : t178 ≥ 0
     ·rw [if_pos c43] at H
      have c43b0 : decide (0 ≤ t178) = true := decide_eq_true c43
      clear c43
      replace H := Option.bind_eq_some_iff.mp H
      obtain ⟨t211, A440, H⟩ := H
      try dsimp only at H
      have A44 := am A440
      clear A440
      replace H := Option.bind_eq_some_iff.mp H
      obtain ⟨t214, A450, H⟩ := H
      try dsimp only at H
      have A45 := am A450
      clear A450
      replace H := Option.bind_eq_some_iff.mp H
      obtain ⟨t217, A460, H⟩ := H
      try dsimp only at H
      have A46 := am A460
      clear A460
      simp only [Option.some.injEq, Prod.mk.injEq] at H
      obtain ⟨rfl, rfl, rfl, rfl⟩ := H
      try go_wp2
      replace HO_196000 := am (Kd.R_drew HO_196000.out)
      replace HO_196001 := am (Kd.V_drew HO_196001.out)
      replace HO_196002 := am (Kd.V_drew HO_196002.out)
      replace HO_196003 := am (Kd.V_drew HO_196003.out)
      replace BK176 := am (blk_drew BK176.out)
      replace BK195 := am (blk_drew BK195.out)
      replace HB := am (below_drew1 HB.out)
      obtain ⟨Ao48, co48, eo48⟩ := Kd.R_slice HO_196000.out
      (first | subst eo48 | (injection eo48 with f1_ f2_ f3_; have f4_ := f1_.symm; have f5_ := f3_.symm; clear f1_ f2_ f3_; subst f4_; subst f5_))
      refine start_ (n := 18) (S := fun w' => w'.cell? ⟨gb195, 0, none⟩ = some (.slice Ao48 x196000_23.length co48) ∧ w'.cell? ⟨gb195, 1, none⟩ = some (u196001) ∧ w'.cell? ⟨gb195, 2, none⟩ = some (u196002) ∧ w'.cell? ⟨gb195, 3, none⟩ = some (u196003)) (ds := [13, 15, 17]) (bm 18 0) (by kernel_rfl) rfl rfl ⟨cz0 BK195.out, cz1 BK195.out, cz2 BK195.out, cz3 BK195.out⟩ (fun hHeld => ?_); refine with_tabW dec_spans.tab6 dec_spans.bits6 (fun HT_ HW_ => ?_)
      generalize wc.drew = w47 at HO_196000 HO_196001 HO_196002 HO_196003 BK176 BK195 HB hHeld ⊢
      refine pure_ (i := 0) (N := some 35) (v := ?_) (a' := ?_) (bm 18 1) rfl rfl (any_of HT_.out (by kernel_rfl)) (fun _ _ _ h => h) (Or.inl ⟨by kernel_rfl, ?_⟩) ?_ ?_
      rotate_left
      ·intro w'
       go_simp
       with_reducible rfl
      rotate_left
      ·exact pA
      refine pure_ (i := 2) (N := some 37) (v := ?_) (a' := ?_) (bm 18 5) rfl rfl (any_of HT_.out (by kernel_rfl)) (fun _ _ _ h => h) (Or.inl ⟨by kernel_rfl, ?_⟩) ?_ ?_
      rotate_left
      ·intro w'
       go_simp
       with_reducible rfl
      rotate_left
      ·exact pA
      refine pure_ (i := 4) (N := some 39) (v := ?_) (a' := ?_) (bm 18 21) rfl rfl (any_of HT_.out (by kernel_rfl)) (fun _ _ _ h => h) (Or.inl ⟨by kernel_rfl, ?_⟩) ?_ ?_
      rotate_left
      ·intro w'
       go_simp
       with_reducible rfl
      rotate_left
      ·exact pA
      refine pure_ (i := 6) (N := some 41) (v := ?_) (a' := ?_) (bm 18 85) rfl rfl (any_of HT_.out (by kernel_rfl)) (fun _ _ _ h => h) (Or.inl ⟨by kernel_rfl, ?_⟩) ?_ ?_
      rotate_left
      ·intro w'
       go_simp
       with_reducible rfl
      rotate_left
      ·exact pA
      refine pure_ (i := 8) (N := some 43) (v := ?_) (a' := ?_) (bm 18 341) rfl rfl (any_of HT_.out (by kernel_rfl)) (fun _ _ _ h => h) (Or.inl ⟨by kernel_rfl, ?_⟩) ?_ ?_
      rotate_left
      ·intro w'
       go_simp
       with_reducible rfl
      rotate_left
      ·exact pA
      refine pure_ (i := 10) (N := some 45) (v := ?_) (a' := ?_) (bm 18 1365) rfl rfl (any_of HT_.out (by kernel_rfl)) (fun _ _ _ h => h) (Or.inl ⟨by kernel_rfl, ?_⟩) ?_ ?_
      rotate_left
      ·intro w'
       go_simp
       with_reducible rfl
      rotate_left
      ·exact pA
      refine take_ (i := 1) (N := some 36) (v := ?_) (a' := ?_) (bm 18 1367) rfl rfl (take_ofW HT_.out HW_.out (by kernel_rfl)) (fun _ _ _ h => h) (Or.inl ⟨by kernel_rfl, ?_⟩) hHeld ?_ ?_
      rotate_left
      ·rintro w' ⟨s0, s1, s2, s3⟩
       go_simp
       with_reducible rfl
      rotate_left
      ·exact pA
      refine take_ (i := 5) (N := some 40) (v := ?_) (a' := ?_) (bm 18 1399) rfl rfl (take_ofW HT_.out HW_.out (by kernel_rfl)) (fun _ _ _ h => h) (Or.inl ⟨by kernel_rfl, ?_⟩) hHeld ?_ ?_
      rotate_left
      ·rintro w' ⟨s0, s1, s2, s3⟩
       go_simp
       with_reducible rfl
      rotate_left
      ·exact pA
      refine take_ (i := 9) (N := some 44) (v := ?_) (a' := ?_) (bm 18 1911) rfl rfl (take_ofW HT_.out HW_.out (by kernel_rfl)) (fun _ _ _ h => h) (Or.inl ⟨by kernel_rfl, ?_⟩) hHeld ?_ ?_
      rotate_left
      ·rintro w' ⟨s0, s1, s2, s3⟩
       go_simp
       with_reducible rfl
      rotate_left
      ·exact pA
      refine one_ (i := 3) (N := some 38) (bm 18 1919) rfl rfl (one_of HT_.out (by kernel_rfl)) (by decide) (fun K hK => ?_)
      refine goes_ Tryd.func40 (by kernel_rfl) rfl #[.slice Ao48 x196000_23.length co48, .int .i64 t178] (by rfl) rfl rfl pM ?_
      with_reducible refine (dec_big_up.calls kj23 _ _ x196000_23 t178 t211 _ ?side1 ?side2 A44.out).mono ?_
      (case side1 => repeat (first | exact (Kd.R_reads' HO_196000.out).2.2 | (with_reducible refine Kd.C_alloc ?_ _) | (with_reducible refine Kd.C_drewN ?_ _) | (with_reducible refine Kd.C_drew ?_)))
      (case side2 => exact (Kd.R_reads' HO_196000.out).2.1)
      rintro e w49 ⟨v212, rfl, ho0, hb⟩
      refine ⟨_, rfl, ?_⟩
      have n0_ := am (Kd.R_elder' (pR HO_196000.out) (Kd.R_base ho0) hb)
      have n1_ := am (Kd.V_elder' (pV HO_196001.out) (Kd.R_base ho0) hb)
      have n2_ := am (Kd.V_elder' (pV HO_196002.out) (Kd.R_base ho0) hb)
      have n3_ := am (Kd.V_elder' (pV HO_196003.out) (Kd.R_base ho0) hb)
      have n4_ := am (Kd.R_lower (Kd.R_new' (Kd.R_newM (M := fun k_ => (w.heap.size ≤ k_)) ho0 (below_size pB) (fun k_ h_ => h_)) (Kd.R_lt (pR HO_196000.out))) (below_size pB))
      have n5_ := am (pkb BK176.out hb)
      have n6_ := am (pkb BK195.out hb)
      have n7_ := am (below_step pB hb)
      clear HO_196000 HO_196001 HO_196002 HO_196003 BK176 BK195 HB; have HO_196000 := n0_; have HO_196001 := n1_; have HO_196002 := n2_; have HO_196003 := n3_; have HO213 := n4_; have BK176 := n5_; have BK195 := n6_; have HB := n7_; clear n0_ n1_ n2_ n3_ n4_ n5_ n6_ n7_; (try clear hb); (try clear ho0)
      obtain ⟨Ao50, co50, eo50⟩ := Kd.V_slice HO_196002.out
      (first | subst eo50 | (injection eo50 with f1_ f2_ f3_; have f4_ := f1_.symm; have f5_ := f3_.symm; clear f1_ f2_ f3_; subst f4_; subst f5_))
      refine hK.out _ _ ⟨cz0 BK195.out, cz1 BK195.out, cz2 BK195.out, cz3 BK195.out⟩ (fun hHeld => ?_)
      clear hK K
      refine norm_ (a' := ?_) ?_ ?_
      rotate_left
      ·show Act.put _ (some 38) _ = _
       exact pA
      refine pure_ (i := 12) (N := some 47) (v := ?_) (a' := ?_) (bm 18 6015) rfl rfl (any_of HT_.out (by kernel_rfl)) (fun _ _ _ h => h) (Or.inl ⟨by kernel_rfl, ?_⟩) ?_ ?_
      rotate_left
      ·intro w'
       go_simp
       with_reducible rfl
      rotate_left
      ·exact pA
      refine one_ (i := 7) (N := some 42) (bm 18 6143) rfl rfl (one_of HT_.out (by kernel_rfl)) (by decide) (fun K hK => ?_)
      refine goes_ Tryd.func40 (by kernel_rfl) rfl #[.slice Ao50 x196002_23.length co50, .int .i64 t178] (by rfl) rfl rfl pM ?_
      with_reducible refine (dec_big_up.calls kj23 _ _ x196002_23 t178 t214 _ ?side1 ?side2 A45.out).mono ?_
      (case side1 => repeat (first | exact (Kd.V_reads' HO_196002.out).2.2 | (with_reducible refine Kd.C_alloc ?_ _) | (with_reducible refine Kd.C_drewN ?_ _) | (with_reducible refine Kd.C_drew ?_)))
      (case side2 => exact (Kd.V_reads' HO_196002.out).2.1)
      rintro e w51 ⟨v215, rfl, ho0, hb⟩
      refine ⟨_, rfl, ?_⟩
      have n0_ := am (Kd.R_elder' (pR HO_196000.out) (Kd.R_base ho0) hb)
      have n1_ := am (Kd.V_elder' (pV HO_196001.out) (Kd.R_base ho0) hb)
      have n2_ := am (Kd.V_elder' (pV HO_196002.out) (Kd.R_base ho0) hb)
      have n3_ := am (Kd.V_elder' (pV HO_196003.out) (Kd.R_base ho0) hb)
      have n4_ := am (Kd.R_elder' (pR HO213.out) (Kd.R_base ho0) hb)
      have n5_ := am (Kd.R_lower (Kd.R_new' (Kd.R_new' (Kd.R_newM (M := fun k_ => (w.heap.size ≤ k_)) ho0 (below_size pB) (fun k_ h_ => h_)) (Kd.R_lt (pR HO_196000.out))) (Kd.R_lt (pR HO213.out))) (below_size pB))
      have n6_ := am (pkb BK176.out hb)
      have n7_ := am (pkb BK195.out hb)
      have n8_ := am (below_step pB hb)
      clear HO_196000 HO_196001 HO_196002 HO_196003 HO213 BK176 BK195 HB; have HO_196000 := n0_; have HO_196001 := n1_; have HO_196002 := n2_; have HO_196003 := n3_; have HO213 := n4_; have HO216 := n5_; have BK176 := n6_; have BK195 := n7_; have HB := n8_; clear n0_ n1_ n2_ n3_ n4_ n5_ n6_ n7_ n8_; (try clear hb); (try clear ho0)
      obtain ⟨Ao52, co52, eo52⟩ := Kd.V_slice HO_196003.out
      (first | subst eo52 | (injection eo52 with f1_ f2_ f3_; have f4_ := f1_.symm; have f5_ := f3_.symm; clear f1_ f2_ f3_; subst f4_; subst f5_))
      refine hK.out _ _ ⟨cz0 BK195.out, cz1 BK195.out, cz2 BK195.out, cz3 BK195.out⟩ (fun hHeld => ?_)
      clear hK K
      refine norm_ (a' := ?_) ?_ ?_
      rotate_left
      ·show Act.put _ (some 42) _ = _
       exact pA
      refine one_ (i := 11) (N := some 46) (bm 18 8191) rfl rfl (one_of HT_.out (by kernel_rfl)) (by decide) (fun K hK => ?_)
      refine goes_ Tryd.func40 (by kernel_rfl) rfl #[.slice Ao52 x196003_23.length co52, .int .i64 t178] (by rfl) rfl rfl pM ?_
      with_reducible refine (dec_big_up.calls kj23 _ _ x196003_23 t178 t217 _ ?side1 ?side2 A46.out).mono ?_
      (case side1 => repeat (first | exact (Kd.V_reads' HO_196003.out).2.2 | (with_reducible refine Kd.C_alloc ?_ _) | (with_reducible refine Kd.C_drewN ?_ _) | (with_reducible refine Kd.C_drew ?_)))
      (case side2 => exact (Kd.V_reads' HO_196003.out).2.1)
      rintro e w53 ⟨v218, rfl, ho0, hb⟩
      refine ⟨_, rfl, ?_⟩
      have n0_ := am (Kd.R_elder' (pR HO_196000.out) (Kd.R_base ho0) hb)
      have n1_ := am (Kd.V_elder' (pV HO_196001.out) (Kd.R_base ho0) hb)
      have n2_ := am (Kd.V_elder' (pV HO_196002.out) (Kd.R_base ho0) hb)
      have n3_ := am (Kd.V_elder' (pV HO_196003.out) (Kd.R_base ho0) hb)
      have n4_ := am (Kd.R_elder' (pR HO213.out) (Kd.R_base ho0) hb)
      have n5_ := am (Kd.R_elder' (pR HO216.out) (Kd.R_base ho0) hb)
      have n6_ := am (Kd.R_lower (Kd.R_new' (Kd.R_new' (Kd.R_new' (Kd.R_newM (M := fun k_ => (w.heap.size ≤ k_)) ho0 (below_size pB) (fun k_ h_ => h_)) (Kd.R_lt (pR HO_196000.out))) (Kd.R_lt (pR HO213.out))) (Kd.R_lt (pR HO216.out))) (below_size pB))
      have n7_ := am (pkb BK176.out hb)
      have n8_ := am (pkb BK195.out hb)
      have n9_ := am (below_step pB hb)
      clear HO_196000 HO_196001 HO_196002 HO_196003 HO213 HO216 BK176 BK195 HB; have HO_196000 := n0_; have HO_196001 := n1_; have HO_196002 := n2_; have HO_196003 := n3_; have HO213 := n4_; have HO216 := n5_; have HO219 := n6_; have BK176 := n7_; have BK195 := n8_; have HB := n9_; clear n0_ n1_ n2_ n3_ n4_ n5_ n6_ n7_ n8_ n9_; (try clear hb); (try clear ho0)
      obtain ⟨Ao54, co54, eo54⟩ := Kd.R_slice HO213.out
      (first | subst eo54 | (injection eo54 with f1_ f2_ f3_; have f4_ := f1_.symm; have f5_ := f3_.symm; clear f1_ f2_ f3_; subst f4_; subst f5_))
      obtain ⟨Ao56, co56, eo56⟩ := Kd.R_slice HO216.out
      (first | subst eo56 | (injection eo56 with f1_ f2_ f3_; have f4_ := f1_.symm; have f5_ := f3_.symm; clear f1_ f2_ f3_; subst f4_; subst f5_))
      obtain ⟨Ao58, co58, eo58⟩ := Kd.R_slice HO219.out
      (first | subst eo58 | (injection eo58 with f1_ f2_ f3_; have f4_ := f1_.symm; have f5_ := f3_.symm; clear f1_ f2_ f3_; subst f4_; subst f5_))
      refine hK.out _ _ ⟨cz0 BK195.out, cz1 BK195.out, cz2 BK195.out, cz3 BK195.out⟩ (fun hHeld => ?_)
      clear hK K
      refine norm_ (a' := ?_) ?_ ?_
      rotate_left
      ·show Act.put _ (some 46) _ = _
       exact pA
      refine last_ (i := 13) (N := none) (bm 18 16383) rfl rfl (one_of HT_.out (by kernel_rfl)) (by decide) (fun K hK => ?_)
      have hs55 : w53.cell? ⟨gb195, 0, none⟩ = some (.slice Ao48 x196000_23.length co48) := cz0 BK195.out
      have hfs55 := blk_frozen BK195.out 0
      have hns55_0 := NB176_195.out
      have hms55_0 := NB195_176.out
      refine skip_ (w1 := ?_) ?hw rfl ?_ ?_; (case hw => kernel_rfl)
      rotate_left
      ·go_simp
       rfl
      refine hK.out _ _ ?_
      clear hK K
      refine pure_ (i := 14) (N := some 48) (v := ?_) (a' := ?_) (bm 18 32767) rfl rfl (any_of HT_.out (by kernel_rfl)) (fun _ _ _ h => h) (Or.inl ⟨by kernel_rfl, ?_⟩) ?_ ?_
      rotate_left
      ·intro w'
       go_simp
       with_reducible rfl
      rotate_left
      ·exact pA
      refine last_ (i := 15) (N := none) (bm 18 65535) rfl rfl (one_of HT_.out (by kernel_rfl)) (by decide) (fun K hK => ?_)
      have hs57 : w53.cell? ⟨gb195, 2, none⟩ = some (.slice Ao50 x196002_23.length co50) := cz2 BK195.out
      have hfs57 := blk_frozen BK195.out 2
      have hns57_0 := NB176_195.out
      have hms57_0 := NB195_176.out
      refine skip_ (w1 := ?_) ?hw rfl ?_ ?_; (case hw => kernel_rfl)
      rotate_left
      ·go_simp
       rfl
      refine hK.out _ _ ?_
      clear hK K
      refine pure_ (i := 16) (N := some 49) (v := ?_) (a' := ?_) (bm 18 131071) rfl rfl (any_of HT_.out (by kernel_rfl)) (fun _ _ _ h => h) (Or.inl ⟨by kernel_rfl, ?_⟩) ?_ ?_
      rotate_left
      ·intro w'
       go_simp
       with_reducible rfl
      rotate_left
      ·exact pA
      refine last_ (i := 17) (N := none) (bm 18 262143) rfl rfl (one_of HT_.out (by kernel_rfl)) (by decide) (fun K hK => ?_)
      have hs59 : w53.cell? ⟨gb195, 3, none⟩ = some (.slice Ao52 x196003_23.length co52) := cz3 BK195.out
      have hfs59 := blk_frozen BK195.out 3
      have hns59_0 := NB176_195.out
      have hms59_0 := NB195_176.out
      refine skip_ (w1 := ?_) ?hw rfl ?_ ?_; (case hw => kernel_rfl)
      rotate_left
      ·go_simp
       rfl
      refine hK.out _ _ ?_
      clear hK K
      refine done_ (done_of HT_.out (by kernel_rfl)) ?_
      have hnb60 := NB195_176.out
      have hnc60 := NB176_195.out
      have q61 := cf4 BK195.out
      have q62 := cf4 BK176.out
      obtain ⟨Ao63, co63, eo63⟩ := Kd.V_slice HO_196001.out
      subst eo63
      try go_wp2
      refine bodyPost_ret (results_cell_row rfl _ _ gb176 66 #[.slice Ao54 t211.length co54, .slice Ao63 x196001_23.length co63, .slice Ao56 t214.length co56, .slice Ao58 t217.length co58] (0, 0) _ rfl (by (with_reducible repeat (first | refine blk_drewN ?_ _ | refine blk_drew ?_ | refine blk_alloc ?_ _)); refine blk_put (cs := #[.slice Ao54 t211.length co54, .slice Ao63 x196001_23.length co63, .slice Ao56 t214.length co56, .slice none 0 0]) ?_ 3 _ rfl; (with_reducible repeat (first | refine blk_drewN ?_ _ | refine blk_drew ?_ | refine blk_alloc ?_ _)); refine blk_put (cs := #[.slice Ao54 t211.length co54, .slice Ao63 x196001_23.length co63, .slice none 0 0, .slice none 0 0]) ?_ 2 _ rfl; (with_reducible repeat (first | refine blk_drewN ?_ _ | refine blk_drew ?_ | refine blk_alloc ?_ _)); refine blk_put (cs := #[.slice Ao54 t211.length co54, .slice none 0 0, .slice none 0 0, .slice none 0 0]) ?_ 1 _ rfl; (with_reducible repeat (first | refine blk_drewN ?_ _ | refine blk_drew ?_ | refine blk_alloc ?_ _)); refine blk_put (cs := #[.slice none 0 0, .slice none 0 0, .slice none 0 0, .slice none 0 0]) ?_ 0 _ rfl; (with_reducible repeat (first | refine blk_drewN ?_ _ | refine blk_drew ?_ | refine blk_alloc ?_ _)); refine blk_far ?_ NB176_195.out _; (with_reducible repeat (first | refine blk_drewN ?_ _ | refine blk_drew ?_ | refine blk_alloc ?_ _)); refine blk_far ?_ NB176_195.out _; (with_reducible repeat (first | refine blk_drewN ?_ _ | refine blk_drew ?_ | refine blk_alloc ?_ _)); refine blk_far ?_ NB176_195.out _; (with_reducible repeat (first | refine blk_drewN ?_ _ | refine blk_drew ?_ | refine blk_alloc ?_ _)); exact BK176.out) Tryd.underlying66 rfl (by kernel_rfl)) rfl ?_
      exact ⟨_, _, _, _, pE, by (with_reducible repeat (first | apply Kd.R_alloc | apply Kd.R_drewN | apply Kd.R_drew)); exact Kd.R_mono (Kd.R_far (p := ⟨gb176, 3, none⟩) (Kd.R_far (p := ⟨gb176, 2, none⟩) (Kd.R_far (p := ⟨gb176, 1, none⟩) (Kd.R_far (p := ⟨gb176, 0, none⟩) (Kd.R_far (p := ⟨gb195, 3, none⟩) (Kd.R_far (p := ⟨gb195, 2, none⟩) (Kd.R_far (p := ⟨gb195, 0, none⟩) (Kd.R_types (Kd.R_types HO213.out BK195.out (by decide)) BK176.out (by decide)) (fun _ hk => hk.1.2) (.slice Ao54 t211.length co54)) (fun _ hk => hk.1.2) (.slice Ao56 t214.length co56)) (fun _ hk => hk.1.2) (.slice Ao58 t217.length co58)) (fun _ hk => hk.2) (.slice Ao54 t211.length co54)) (fun _ hk => hk.2) (.slice Ao63 x196001_23.length co63)) (fun _ hk => hk.2) (.slice Ao56 t214.length co56)) (fun _ hk => hk.2) (.slice Ao58 t217.length co58)) (fun _ hk => hk.1.1.1.1.1.1), by (with_reducible repeat (first | apply Kd.V_alloc | apply Kd.V_drewN | apply Kd.V_drew)); exact Kd.V_mono (Kd.V_far (p := ⟨gb176, 3, none⟩) (Kd.V_far (p := ⟨gb176, 2, none⟩) (Kd.V_far (p := ⟨gb176, 1, none⟩) (Kd.V_far (p := ⟨gb176, 0, none⟩) (Kd.V_far (p := ⟨gb195, 3, none⟩) (Kd.V_far (p := ⟨gb195, 2, none⟩) (Kd.V_far (p := ⟨gb195, 0, none⟩) (Kd.V_mono (Kd.V_mono HO_196001.out (fun k_ hk => (⟨hk, hk.1.1.1.2.2.2⟩ : _ ∧ k_ ≠ gb195))) (fun k_ hk => (⟨hk, hk.1.1.1.1.2.2.1⟩ : _ ∧ k_ ≠ gb176))) (fun _ hk => hk.1.2) (.slice Ao54 t211.length co54)) (fun _ hk => hk.1.2) (.slice Ao56 t214.length co56)) (fun _ hk => hk.1.2) (.slice Ao58 t217.length co58)) (fun _ hk => hk.2) (.slice Ao54 t211.length co54)) (fun _ hk => hk.2) (.slice Ao63 x196001_23.length co63)) (fun _ hk => hk.2) (.slice Ao56 t214.length co56)) (fun _ hk => hk.2) (.slice Ao58 t217.length co58)) (fun _ hk => ⟨hk.1.1.1.1.1.1, hk.1.1.1.1.2⟩), Kd.R_V (by (with_reducible repeat (first | apply Kd.R_alloc | apply Kd.R_drewN | apply Kd.R_drew)); exact Kd.R_mono (Kd.R_far (p := ⟨gb176, 3, none⟩) (Kd.R_far (p := ⟨gb176, 2, none⟩) (Kd.R_far (p := ⟨gb176, 1, none⟩) (Kd.R_far (p := ⟨gb176, 0, none⟩) (Kd.R_far (p := ⟨gb195, 3, none⟩) (Kd.R_far (p := ⟨gb195, 2, none⟩) (Kd.R_far (p := ⟨gb195, 0, none⟩) (Kd.R_types (Kd.R_types HO216.out BK195.out (by decide)) BK176.out (by decide)) (fun _ hk => hk.1.2) (.slice Ao54 t211.length co54)) (fun _ hk => hk.1.2) (.slice Ao56 t214.length co56)) (fun _ hk => hk.1.2) (.slice Ao58 t217.length co58)) (fun _ hk => hk.2) (.slice Ao54 t211.length co54)) (fun _ hk => hk.2) (.slice Ao63 x196001_23.length co63)) (fun _ hk => hk.2) (.slice Ao56 t214.length co56)) (fun _ hk => hk.2) (.slice Ao58 t217.length co58)) (fun _ hk => ⟨hk.1.1.1.1.1.1, hk.1.1.1.2⟩)), Kd.R_V (by (with_reducible repeat (first | apply Kd.R_alloc | apply Kd.R_drewN | apply Kd.R_drew)); exact Kd.R_mono (Kd.R_far (p := ⟨gb176, 3, none⟩) (Kd.R_far (p := ⟨gb176, 2, none⟩) (Kd.R_far (p := ⟨gb176, 1, none⟩) (Kd.R_far (p := ⟨gb176, 0, none⟩) (Kd.R_far (p := ⟨gb195, 3, none⟩) (Kd.R_far (p := ⟨gb195, 2, none⟩) (Kd.R_far (p := ⟨gb195, 0, none⟩) (Kd.R_types (Kd.R_types HO219.out BK195.out (by decide)) BK176.out (by decide)) (fun _ hk => hk.1.2) (.slice Ao54 t211.length co54)) (fun _ hk => hk.1.2) (.slice Ao56 t214.length co56)) (fun _ hk => hk.1.2) (.slice Ao58 t217.length co58)) (fun _ hk => hk.2) (.slice Ao54 t211.length co54)) (fun _ hk => hk.2) (.slice Ao63 x196001_23.length co63)) (fun _ hk => hk.2) (.slice Ao56 t214.length co56)) (fun _ hk => hk.2) (.slice Ao58 t217.length co58)) (fun _ hk => ⟨hk.1.1.1.1.1.1, hk.1.1.1.2⟩)), pB⟩
     ·rw [if_neg c43] at H
      have c43b0 : decide (0 ≤ t178) = false := decide_eq_false c43
      clear c43
      replace H := Option.bind_eq_some_iff.mp H
      obtain ⟨t220, A640, H⟩ := H
      try dsimp only at H
      have A64 := am A640
      clear A640
      simp only [Option.some.injEq, Prod.mk.injEq] at H
      obtain ⟨rfl, rfl, rfl, rfl⟩ := H
      have hnb65 := NB195_176.out
      have hnc65 := NB176_195.out
      have q66 := cf4 BK195.out
      obtain ⟨Ao67, co67, eo67⟩ := Kd.V_slice HO_196001.out
      subst eo67
      go_wp2_with (first | ((with_reducible refine gate_callee (f := 40) rfl ?_); refine goesL_ (some 54) rfl rfl Tryd.func40 (by kernel_rfl) rfl #[.slice Ao67 x196001_23.length co67, .int .i64 (wrap64 (-t178))] rfl pM ?_; (with_reducible refine (dec_big_up.calls kj23 _ _ x196001_23 (wrap64 (-t178)) t220 _ ?side1 ?side2 A64.out).mono ?_); (case side1 => repeat (first | exact (Kd.V_reads' HO_196001.out).2.2 | (with_reducible refine Kd.C_alloc ?_ _) | (with_reducible refine Kd.C_drewN ?_ _) | (with_reducible refine Kd.C_drew ?_))); (case side2 => exact (Kd.V_reads' HO_196001.out).2.1); rintro e w68 ⟨v221, rfl, ho0, hb⟩; refine ⟨_, rfl, ?_⟩; replace HO_196001 := am (Kd.V_elder' (pV HO_196001.out) (Kd.R_base ho0) hb); replace HO_196002 := am (Kd.V_elder' (pV HO_196002.out) (Kd.R_base ho0) hb); replace HO_196003 := am (Kd.V_elder' (pV HO_196003.out) (Kd.R_base ho0) hb); have HO222 := am (Kd.R_lower (Kd.R_new' (Kd.R_newM (M := fun k_ => (w.heap.size ≤ k_)) ho0 (below_size pB) (fun k_ h_ => h_)) (Kd.R_lt (pR HO_196000.out))) (below_size pB)); replace HO_196000 := am (Kd.R_elder' (pR HO_196000.out) (Kd.R_base ho0) hb); replace BK176 := am (pkb BK176.out hb); replace BK195 := am (pkb BK195.out hb); replace HB := am (below_step pB hb); (try clear hb); (try clear ho0); obtain ⟨Ao69, co69, eo69⟩ := Kd.R_slice HO222.out; subst eo69; have q70 := cf4 BK195.out; obtain ⟨Ao71, co71, eo71⟩ := Kd.R_slice HO_196000.out; subst eo71; have q72 := cf4 BK176.out; obtain ⟨Ao73, co73, eo73⟩ := Kd.V_slice HO_196002.out; subst eo73; obtain ⟨Ao74, co74, eo74⟩ := Kd.V_slice HO_196003.out; subst eo74))
      refine bodyPost_ret (results_cell_row rfl _ _ gb176 66 #[.slice Ao71 x196000_23.length co71, .slice Ao69 t220.length co69, .slice Ao73 x196002_23.length co73, .slice Ao74 x196003_23.length co74] (0, 0) _ rfl (by (with_reducible repeat (first | refine blk_drewN ?_ _ | refine blk_drew ?_ | refine blk_alloc ?_ _)); refine blk_put (cs := #[.slice Ao71 x196000_23.length co71, .slice Ao69 t220.length co69, .slice Ao73 x196002_23.length co73, .slice none 0 0]) ?_ 3 _ rfl; (with_reducible repeat (first | refine blk_drewN ?_ _ | refine blk_drew ?_ | refine blk_alloc ?_ _)); refine blk_put (cs := #[.slice Ao71 x196000_23.length co71, .slice Ao69 t220.length co69, .slice none 0 0, .slice none 0 0]) ?_ 2 _ rfl; (with_reducible repeat (first | refine blk_drewN ?_ _ | refine blk_drew ?_ | refine blk_alloc ?_ _)); refine blk_put (cs := #[.slice Ao71 x196000_23.length co71, .slice none 0 0, .slice none 0 0, .slice none 0 0]) ?_ 1 _ rfl; (with_reducible repeat (first | refine blk_drewN ?_ _ | refine blk_drew ?_ | refine blk_alloc ?_ _)); refine blk_put (cs := #[.slice none 0 0, .slice none 0 0, .slice none 0 0, .slice none 0 0]) ?_ 0 _ rfl; (with_reducible repeat (first | refine blk_drewN ?_ _ | refine blk_drew ?_ | refine blk_alloc ?_ _)); refine blk_far ?_ NB176_195.out _; (with_reducible repeat (first | refine blk_drewN ?_ _ | refine blk_drew ?_ | refine blk_alloc ?_ _)); exact BK176.out) Tryd.underlying66 rfl (by kernel_rfl)) rfl ?_
      exact ⟨_, _, _, _, pE, by (with_reducible repeat (first | apply Kd.R_alloc | apply Kd.R_drewN | apply Kd.R_drew)); exact Kd.R_mono (Kd.R_far (p := ⟨gb176, 3, none⟩) (Kd.R_far (p := ⟨gb176, 2, none⟩) (Kd.R_far (p := ⟨gb176, 1, none⟩) (Kd.R_far (p := ⟨gb176, 0, none⟩) (Kd.R_far (p := ⟨gb195, 1, none⟩) (Kd.R_types (Kd.R_types HO_196000.out BK195.out (by decide)) BK176.out (by decide)) (fun _ hk => hk.1.2) (.slice Ao69 t220.length co69)) (fun _ hk => hk.2) (.slice Ao71 x196000_23.length co71)) (fun _ hk => hk.2) (.slice Ao69 t220.length co69)) (fun _ hk => hk.2) (.slice Ao73 x196002_23.length co73)) (fun _ hk => hk.2) (.slice Ao74 x196003_23.length co74)) (fun _ hk => hk.1.1.1), Kd.R_V (by (with_reducible repeat (first | apply Kd.R_alloc | apply Kd.R_drewN | apply Kd.R_drew)); exact Kd.R_mono (Kd.R_far (p := ⟨gb176, 3, none⟩) (Kd.R_far (p := ⟨gb176, 2, none⟩) (Kd.R_far (p := ⟨gb176, 1, none⟩) (Kd.R_far (p := ⟨gb176, 0, none⟩) (Kd.R_far (p := ⟨gb195, 1, none⟩) (Kd.R_types (Kd.R_types HO222.out BK195.out (by decide)) BK176.out (by decide)) (fun _ hk => hk.1.2) (.slice Ao69 t220.length co69)) (fun _ hk => hk.2) (.slice Ao71 x196000_23.length co71)) (fun _ hk => hk.2) (.slice Ao69 t220.length co69)) (fun _ hk => hk.2) (.slice Ao73 x196002_23.length co73)) (fun _ hk => hk.2) (.slice Ao74 x196003_23.length co74)) (fun _ hk => ⟨hk.1.1.1.1, hk.1.1.2⟩)), by (with_reducible repeat (first | apply Kd.V_alloc | apply Kd.V_drewN | apply Kd.V_drew)); exact Kd.V_mono (Kd.V_far (p := ⟨gb176, 3, none⟩) (Kd.V_far (p := ⟨gb176, 2, none⟩) (Kd.V_far (p := ⟨gb176, 1, none⟩) (Kd.V_far (p := ⟨gb176, 0, none⟩) (Kd.V_far (p := ⟨gb195, 1, none⟩) (Kd.V_mono (Kd.V_mono HO_196002.out (fun k_ hk => (⟨hk, hk.1.2.2.2⟩ : _ ∧ k_ ≠ gb195))) (fun k_ hk => (⟨hk, hk.1.1.2.2.1⟩ : _ ∧ k_ ≠ gb176))) (fun _ hk => hk.1.2) (.slice Ao69 t220.length co69)) (fun _ hk => hk.2) (.slice Ao71 x196000_23.length co71)) (fun _ hk => hk.2) (.slice Ao69 t220.length co69)) (fun _ hk => hk.2) (.slice Ao73 x196002_23.length co73)) (fun _ hk => hk.2) (.slice Ao74 x196003_23.length co74)) (fun _ hk => ⟨hk.1.1.1.1, hk.1.1.1.2.1⟩), by (with_reducible repeat (first | apply Kd.V_alloc | apply Kd.V_drewN | apply Kd.V_drew)); exact Kd.V_mono (Kd.V_far (p := ⟨gb176, 3, none⟩) (Kd.V_far (p := ⟨gb176, 2, none⟩) (Kd.V_far (p := ⟨gb176, 1, none⟩) (Kd.V_far (p := ⟨gb176, 0, none⟩) (Kd.V_far (p := ⟨gb195, 1, none⟩) (Kd.V_mono (Kd.V_mono HO_196003.out (fun k_ hk => (⟨hk, hk.1.2.2.2⟩ : _ ∧ k_ ≠ gb195))) (fun k_ hk => (⟨hk, hk.1.1.2.2.1⟩ : _ ∧ k_ ≠ gb176))) (fun _ hk => hk.1.2) (.slice Ao69 t220.length co69)) (fun _ hk => hk.2) (.slice Ao71 x196000_23.length co71)) (fun _ hk => hk.2) (.slice Ao69 t220.length co69)) (fun _ hk => hk.2) (.slice Ao73 x196002_23.length co73)) (fun _ hk => hk.2) (.slice Ao74 x196003_23.length co74)) (fun _ hk => ⟨hk.1.1.1.1, hk.1.1.1.2.1⟩), pB⟩
def dec_big_cmp.l0 : Nat → List Int → List Int → Int → Option (Int)
 | 0, _, _, _ => none
 | k + 1, x0, x1, x5 => if x5 ≥ 0 then (if 0 ≤ x5 then (if x5 < (x0.length : Int) then (if x5 < (x1.length : Int) then (if (rd x0 x5) = (rd x1 x5) then (dec_big_cmp.l0 k x0 x1 (wrap64 (x5 - 1))) else (if (rd x0 x5) < (rd x1 x5) then (some (-1)) else (some 1))) else (none)) else (none)) else (none)) else (some 0)
def dec_big_cmp.f (k : Nat) (l0 : List Int) (l1 : List Int) : Option (Int) := if (l0.length : Int) = (l1.length : Int) then (dec_big_cmp.l0 k l0 l1 (wrap64 ((l0.length : Int) - 1))) else (some (wrap64 ((l0.length : Int) - (l1.length : Int))))
theorem dec_big_cmp.mono_l : ∀ k, (∀ y0 y1 y2, LeO (dec_big_cmp.l0 k y0 y1 y2) (dec_big_cmp.l0 (k + 1) y0 y1 y2))
 | 0 => fun _ _ _ r h => by simp [dec_big_cmp.l0] at h
 | k + 1 => by
  have ih0 := dec_big_cmp.mono_l k
  ·intro y0 y1 y2
   unfold dec_big_cmp.l0
   repeat' first
   | (with_reducible exact ih0 _ _ _)
   | (with_reducible exact LeO.refl _)
   | (with_reducible exact LeO.none _)
   | (with_reducible refine LeO.ite ?_ ?_)
   | (with_reducible refine LeO.bind ?_ (fun _ => ?_))
   | exact ih0 _ _ _
   | exact LeO.none _
   | refine LeO.ite ?_ ?_
   | refine LeO.bind ?_ (fun _ => ?_)
theorem dec_big_cmp.mono : ∀ a0 a1 k, LeO (dec_big_cmp.f k a0 a1) (dec_big_cmp.f (k + 1) a0 a1) := by
 intro a0 a1 k
 have ih0 := dec_big_cmp.mono_l k
 unfold dec_big_cmp.f
 repeat' first
   | (with_reducible exact ih0 _ _ _)
   | (with_reducible exact LeO.refl _)
   | (with_reducible exact LeO.none _)
   | (with_reducible refine LeO.ite ?_ ?_)
   | (with_reducible refine LeO.bind ?_ (fun _ => ?_))
   | exact ih0 _ _ _
   | exact LeO.none _
   | refine LeO.ite ?_ ?_
   | refine LeO.bind ?_ (fun _ => ?_)
set_option maxHeartbeats 8000000 in
set_option maxRecDepth 100000 in
theorem dec_big_cmp.calls (k : Nat) (A0 : Option Addr) (c0 : Nat) (l0 : List Int) (A1 : Option Addr) (c1 : Nat) (l1 : List Int) (r : Int) (w : World) (hr0 : Kd.C (Kd.int .u32) w A0 l0.length l0) (hc0 : l0.length ≤ c0) (hr1 : Kd.C (Kd.int .u32) w A1 l1.length l1) (hc1 : l1.length ≤ c1) (h : dec_big_cmp.f k l0 l1 = some r) :
  Calls Tryd.prog 35 #[.slice A0 l0.length c0, .slice A1 l1.length c1] w fun e w' => e = .returned (.int .i64 r) ∧ Drawn0 w w' := by
 have HR0 := am hr0
 have HC0 := am hc0
 clear hr0 hc0
 have HR1 := am hr1
 have HC1 := am hc1
 clear hr1 hc1
 have H : (if (l0.length : Int) = (l1.length : Int) then (dec_big_cmp.l0 k l0 l1 (wrap64 ((l0.length : Int) - 1))) else (some (wrap64 ((l0.length : Int) - (l1.length : Int))))) = some r := h
 clear h
 by_cases c3 : (l0.length : Int) = (l1.length : Int)
 ·rw [if_pos c3] at H
  have c3b0 : ((l0.length : Int) == (l1.length : Int)) = true := beq_iff_eq.mpr c3
  have c3b1 : ((l0.length : Int) != (l1.length : Int)) = false := bne_eq_false_iff_eq.mpr c3
  have c3b2 : (l0.length == l1.length) = true := by first | simpa using c3 | (simp at c3 ⊢; omega)
  clear c3
  have H' := am H
  clear H
  go_enter Tryd.func35, Tryd.ntmps35
  go_wp2
  repeat (go_quiet (fail); try go_wp2)
  go_loopg [5] k (fun kq v5 w' => ∃ (x5_1 : Int), v5 = .int .i64 x5_1 ∧ Aside0 (dec_big_cmp.l0 kq l0 l1 x5_1 = some r) ∧ Aside0 (kq ≤ k) ∧ Drawn0 w w')
  case atStart => exact ⟨(wrap64 ((l0.length : Int) - 1)), (by first | rfl | (simp; done) | (simp [*]; done)), H', ⟨Nat.le_refl _⟩, by repeat (first | exact Drawn0.refl _ | apply Drawn0.step)⟩
  case round =>
   clear H'
   try clear c1
   try clear p2
   try clear c3
   try clear c3b0
   try clear c3b1
   try clear c3b2
   obtain ⟨x5_1, rfl, HA, HK1, ⟨m1, rfl⟩⟩ := hrel
   cases gk with
   | zero => exact absurd HA.out (by simp [dec_big_cmp.l0])
   | succ k1 =>
    have H := HA.out
    clear HA
    simp only [dec_big_cmp.l0] at H
    by_cases c4 : x5_1 ≥ 0
    ·rw [if_pos c4] at H
     have c4b0 : decide (0 ≤ x5_1) = true := decide_eq_true c4
     clear c4
     by_cases c5 : 0 ≤ x5_1
     ·rw [if_pos c5] at H
      have c5b0 : decide (0 ≤ x5_1) = true := decide_eq_true c5
      clear c5
      by_cases c6 : x5_1 < (l0.length : Int)
      ·rw [if_pos c6] at H
       have c6b0 : decide (x5_1 < (l0.length : Int)) = true := decide_eq_true c6
       clear c6
       by_cases c7 : x5_1 < (l1.length : Int)
       ·rw [if_pos c7] at H
        have c7b0 : decide (x5_1 < (l1.length : Int)) = true := decide_eq_true c7
        clear c7
        by_cases c8 : (rd l0 x5_1) = (rd l1 x5_1)
        ·rw [if_pos c8] at H
         have c8b0 : ((rd l0 x5_1) == (rd l1 x5_1)) = true := beq_iff_eq.mpr c8
         have c8b1 : ((rd l0 x5_1) != (rd l1 x5_1)) = false := bne_eq_false_iff_eq.mpr c8
         clear c8
         have H' := am H
         clear H
         have p223 : 0 ≤ (x5_1 : Int) := pD
         have q223 : x5_1 < (l0.length : Int) := pD
         obtain ⟨ad223, e223, hx223_0⟩ := Kd.at_int HR0.out x5_1 p223 q223
         cases e223
         replace p223 := eq_true p223
         replace q223 := eq_true q223
         have p224 : 0 ≤ (x5_1 : Int) := pD
         have q224 : x5_1 < (l1.length : Int) := pD
         obtain ⟨ad224, e224, hx224_0⟩ := Kd.at_int HR1.out x5_1 p224 q224
         cases e224
         replace p224 := eq_true p224
         replace q224 := eq_true q224
         go_wp2
         repeat (go_quiet (fail); try go_wp2)
         go_roundg k1
         case measure => have := HK1.out; omega
         case rel => exact ⟨(wrap64 (x5_1 - 1)), (by first | rfl | (simp; done) | (simp [*]; done)), H', ⟨by have := HK1.out; omega⟩, by repeat (first | exact Drawn0.refl _ | apply Drawn0.step)⟩
        ·rw [if_neg c8] at H
         have c8b0 : ((rd l0 x5_1) == (rd l1 x5_1)) = false := beq_eq_false_iff_ne.mpr c8
         have c8b1 : ((rd l0 x5_1) != (rd l1 x5_1)) = true := bne_iff_ne.mpr c8
         by_cases c9 : (rd l0 x5_1) < (rd l1 x5_1)
         ·rw [if_pos c9] at H
          have c9b0 : decide ((rd l0 x5_1) < (rd l1 x5_1)) = true := decide_eq_true c9
          clear c9
          obtain rfl := Option.some.inj H
          have p223 : 0 ≤ (x5_1 : Int) := pD
          have q223 : x5_1 < (l0.length : Int) := pD
          obtain ⟨ad223, e223, hx223_0⟩ := Kd.at_int HR0.out x5_1 p223 q223
          cases e223
          replace p223 := eq_true p223
          replace q223 := eq_true q223
          have p224 : 0 ≤ (x5_1 : Int) := pD
          have q224 : x5_1 < (l1.length : Int) := pD
          obtain ⟨ad224, e224, hx224_0⟩ := Kd.at_int HR1.out x5_1 p224 q224
          cases e224
          replace p224 := eq_true p224
          replace q224 := eq_true q224
          have p225 : 0 ≤ (x5_1 : Int) := pD
          have q225 : x5_1 < (l0.length : Int) := pD
          obtain ⟨ad225, e225, hx225_0⟩ := Kd.at_int HR0.out x5_1 p225 q225
          obtain rfl : ad223 = ad225 := (by injection e225)
          replace p225 := eq_true p225
          replace q225 := eq_true q225
          have p226 : 0 ≤ (x5_1 : Int) := pD
          have q226 : x5_1 < (l1.length : Int) := pD
          obtain ⟨ad226, e226, hx226_0⟩ := Kd.at_int HR1.out x5_1 p226 q226
          obtain rfl : ad224 = ad226 := (by injection e226)
          replace p226 := eq_true p226
          replace q226 := eq_true q226
          go_wp2
          repeat (go_quiet (fail); try go_wp2)
          go_ret
          exact ⟨by first | rfl | (simp; done) | (simp [*]; done), by repeat (first | exact Drawn0.refl _ | apply Drawn0.step)⟩
         ·rw [if_neg c9] at H
          have c9b0 : decide ((rd l0 x5_1) < (rd l1 x5_1)) = false := decide_eq_false c9
          clear c9
          obtain rfl := Option.some.inj H
          have p223 : 0 ≤ (x5_1 : Int) := pD
          have q223 : x5_1 < (l0.length : Int) := pD
          obtain ⟨ad223, e223, hx223_0⟩ := Kd.at_int HR0.out x5_1 p223 q223
          cases e223
          replace p223 := eq_true p223
          replace q223 := eq_true q223
          have p224 : 0 ≤ (x5_1 : Int) := pD
          have q224 : x5_1 < (l1.length : Int) := pD
          obtain ⟨ad224, e224, hx224_0⟩ := Kd.at_int HR1.out x5_1 p224 q224
          cases e224
          replace p224 := eq_true p224
          replace q224 := eq_true q224
          have p225 : 0 ≤ (x5_1 : Int) := pD
          have q225 : x5_1 < (l0.length : Int) := pD
          obtain ⟨ad225, e225, hx225_0⟩ := Kd.at_int HR0.out x5_1 p225 q225
          obtain rfl : ad223 = ad225 := (by injection e225)
          replace p225 := eq_true p225
          replace q225 := eq_true q225
          have p226 : 0 ≤ (x5_1 : Int) := pD
          have q226 : x5_1 < (l1.length : Int) := pD
          obtain ⟨ad226, e226, hx226_0⟩ := Kd.at_int HR1.out x5_1 p226 q226
          obtain rfl : ad224 = ad226 := (by injection e226)
          replace p226 := eq_true p226
          replace q226 := eq_true q226
          go_wp2
          repeat (go_quiet (fail); try go_wp2)
          go_ret
          exact ⟨by first | rfl | (simp; done) | (simp [*]; done), by repeat (first | exact Drawn0.refl _ | apply Drawn0.step)⟩
       ·rw [if_neg c7] at H
        exact absurd H (by simp)
      ·rw [if_neg c6] at H
       exact absurd H (by simp)
     ·rw [if_neg c5] at H
      exact absurd H (by simp)
    ·rw [if_neg c4] at H
     have c4b0 : decide (0 ≤ x5_1) = false := decide_eq_false c4
     clear c4
     obtain rfl := Option.some.inj H
     go_wp2
     repeat (go_quiet (fail); try go_wp2)
     go_ret
     exact ⟨by first | rfl | (simp; done) | (simp [*]; done), by repeat (first | exact Drawn0.refl _ | apply Drawn0.step)⟩
 ·rw [if_neg c3] at H
  have c3b0 : ((l0.length : Int) == (l1.length : Int)) = false := beq_eq_false_iff_ne.mpr c3
  have c3b1 : ((l0.length : Int) != (l1.length : Int)) = true := bne_iff_ne.mpr c3
  have c3b2 : (l0.length == l1.length) = false := by first | simpa using c3 | (simp at c3 ⊢; omega)
  obtain rfl := Option.some.inj H
  go_enter Tryd.func35, Tryd.ntmps35
  go_wp2
  repeat (go_quiet (fail); try go_wp2)
  go_ret
  exact ⟨by first | rfl | (simp; done) | (simp [*]; done), by repeat (first | exact Drawn0.refl _ | apply Drawn0.step)⟩
def dec_big_len.f (l0 : List Int) : Option (Int) := if (l0.length : Int) = 0 then (some 0) else (if 0 ≤ (wrap64 ((l0.length : Int) - 1)) then (if (wrap64 ((l0.length : Int) - 1)) < (l0.length : Int) then ((bits_Len32.f (rd l0 (wrap64 ((l0.length : Int) - 1)))).bind fun t228 => (some (wrap64 ((wrap64 (32 * (wrap64 ((l0.length : Int) - 1)))) + t228)))) else (none)) else (none))
set_option maxHeartbeats 8000000 in
set_option maxRecDepth 100000 in
theorem dec_big_len.calls (A0 : Option Addr) (c0 : Nat) (l0 : List Int) (r : Int) (w : World) (hr0 : Kd.C (Kd.int .u32) w A0 l0.length l0) (hc0 : l0.length ≤ c0) (h : dec_big_len.f l0 = some r) :
  Calls Tryd.prog 36 #[.slice A0 l0.length c0] w fun e w' => e = .returned (.int .i64 r) ∧ Drawn0 w w' := by
 have HR0 := am hr0
 have HC0 := am hc0
 clear hr0 hc0
 have H : (if (l0.length : Int) = 0 then (some 0) else (if 0 ≤ (wrap64 ((l0.length : Int) - 1)) then (if (wrap64 ((l0.length : Int) - 1)) < (l0.length : Int) then ((bits_Len32.f (rd l0 (wrap64 ((l0.length : Int) - 1)))).bind fun t228 => (some (wrap64 ((wrap64 (32 * (wrap64 ((l0.length : Int) - 1)))) + t228)))) else (none)) else (none))) = some r := h
 clear h
 by_cases c2 : (l0.length : Int) = 0
 ·rw [if_pos c2] at H
  have c2b0 : ((l0.length : Int) == 0) = true := beq_iff_eq.mpr c2
  have c2b1 : ((l0.length : Int) != 0) = false := bne_eq_false_iff_eq.mpr c2
  clear c2
  obtain rfl := Option.some.inj H
  go_enter Tryd.func36, Tryd.ntmps36
  go_wp2
  go_ret
  exact ⟨by first | rfl | (simp; done) | (simp [*]; done), by repeat (first | exact Drawn0.refl _ | apply Drawn0.step)⟩
 ·rw [if_neg c2] at H
  have c2b0 : ((l0.length : Int) == 0) = false := beq_eq_false_iff_ne.mpr c2
  have c2b1 : ((l0.length : Int) != 0) = true := bne_iff_ne.mpr c2
  have c2b2 : ¬ (l0 = []) := fun h_ => c2 (by rw [h_]; rfl)
  obtain ⟨ji3, hji3⟩ : ∃ j_ : Int, (wrap64 ((l0.length : Int) - 1)) = j_ := ⟨_, rfl⟩
  replace H : (if 0 ≤ (ji3) then (if (ji3) < (l0.length : Int) then ((bits_Len32.f (rd l0 (ji3))).bind fun t228 => (some (wrap64 ((wrap64 (32 * (ji3))) + t228)))) else (none)) else (none)) = some r := by first | (rw [hji3] at H; exact H) | (simp only [hji3] at H ⊢; exact H)
  have hji3w : (IntKind.i64.wrap ((l0.length : Int) - 1)) = ji3 := (i64_w _).trans hji3
  by_cases c4 : 0 ≤ (ji3)
  ·rw [if_pos c4] at H
   have c4b0 : decide (0 ≤ (ji3)) = true := decide_eq_true c4
   clear c4
   by_cases c5 : (ji3) < (l0.length : Int)
   ·rw [if_pos c5] at H
    have c5b0 : decide ((ji3) < (l0.length : Int)) = true := decide_eq_true c5
    clear c5
    replace H := Option.bind_eq_some_iff.mp H
    obtain ⟨t228, A60, H⟩ := H
    try dsimp only at H
    have A6 := am A60
    clear A60
    obtain rfl := Option.some.inj H
    have p227 : 0 ≤ ((ji3) : Int) := pD
    have q227 : (ji3) < (l0.length : Int) := pD
    obtain ⟨ad227, e227, hx227_0⟩ := Kd.at_int HR0.out (ji3) p227 q227
    cases e227
    replace p227 := eq_true p227
    replace q227 := eq_true q227
    go_enter Tryd.func36, Tryd.ntmps36
    go_wp2_with (first | ((with_reducible refine gate_callee (f := 65) rfl ?_); refine goesL_ (some 16) rfl rfl Tryd.func65 (by kernel_rfl) rfl #[.int .u32 (rd l0 (ji3))] rfl (by (try simp only [List.map_toArray, List.map_cons, List.map_nil]); first | done | (simp only [hji3]; rfl) | rfl | (simp only [List.length_drop, List.length_take]; rfl)) ?_; (with_reducible refine (bits_Len32.calls (rd l0 (ji3)) t228 _ A6.out).mono ?_); rintro e w' ⟨rfl, ⟨nd, rfl⟩⟩; refine ⟨_, rfl, ?_⟩))
    go_ret
    exact ⟨by first | rfl | (simp; done) | (simp only [← hji3] <;> (first | rfl | simp)) | (simp [*]; done), by repeat (first | exact Drawn0.refl _ | apply Drawn0.step)⟩
   ·rw [if_neg c5] at H
    exact absurd H (by simp)
  ·rw [if_neg c4] at H
   exact absurd H (by simp)
end Go.Proofs.YtflcanpajgpghaaDoor.Pr
end
