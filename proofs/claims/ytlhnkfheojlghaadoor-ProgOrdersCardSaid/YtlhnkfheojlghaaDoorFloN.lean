/- The functions of flo that go over floats: contracts of their calls. -/
import Derived.Test.YtlhnkfheojlghaaDoorProg
import Derived.Below
import Derived.Deep.Draws
import Derived.Deep.AppendLies
import Derived.Maps.AppendAt
import Derived.OwnWalk
import Derived.Laws.BytesArg
import Derived.Laws.MakeOwn
import Derived.Laws.OwnMore
import Derived.Deep.OwnRows
import Derived.Tactics
import Derived.Lib.ConvBytes
import Derived.Laws.Slices
import Derived.WalkKit
import Derived.KernelRfl
import Derived.RowKit3
import Derived.Deep.LoopGhost
import Derived.Deep.QuietTactic
import Derived.BigQuiet
import Derived.WideLaws
import Derived.Deep.DeepCutAuto
import Derived.Deep.CutBlock
import Derived.Deep.RegionHeld3
import Derived.Laws.Rows
import Derived.Lib.AppendStr
import Derived.ArgAppend
import Derived.Laws.IdiomCopy
import Derived.OrdersHeld
import Derived.Laws.BitsLemmas
import Derived.RowKit
import Derived.Test.YtlhnkfheojlghaaDoorWWords
import Derived.Test.YtlhnkfheojlghaaDoorWLast
import Derived.Test.YtlhnkfheojlghaaDoorWTab
import Derived.Test.YtlhnkfheojlghaaDoorWFour
import Derived.Test.YtlhnkfheojlghaaDoorWQPut
import Derived.Test.YtlhnkfheojlghaaDoorWApart
import Derived.Test.YtlhnkfheojlghaaDoorWArr
import Derived.Test.YtlhnkfheojlghaaDoorWZeros
import Derived.Test.YtlhnkfheojlghaaDoorWFoot
import Derived.Test.YtlhnkfheojlghaaDoorWKept
import Derived.Test.YtlhnkfheojlghaaDoorWShare
import Derived.Test.YtlhnkfheojlghaaDoorWN
import Derived.Test.YtlhnkfheojlghaaDoorWFootNe
import Derived.Test.YtlhnkfheojlghaaDoorWAt
import Derived.Test.YtlhnkfheojlghaaDoorWEqStruct
import Derived.Test.YtlhnkfheojlghaaDoorWRepsOne
import Derived.Test.YtlhnkfheojlghaaDoorWInv
import Derived.Test.YtlhnkfheojlghaaDoorWInvWords
import Derived.Test.YtlhnkfheojlghaaDoorWGuard
import Derived.Test.YtlhnkfheojlghaaDoorWNEv
import Derived.Test.YtlhnkfheojlghaaDoorWMore
import Derived.Lib.SliceRun
import Derived.Laws.Externs
import Derived.WalkLawsBesides
import Derived.Test.YtlhnkfheojlghaaDoorFlo
namespace Go.Proofs.YtlhnkfheojlghaaDoor.Pr
open Go.RowKit Go.Proofs.YtlhnkfheojlghaaDoorW.PrintWords Go.Proofs.YtlhnkfheojlghaaDoor.Flo
set_option linter.unusedVariables false
set_option linter.unusedSimpArgs false
def kindV (a : Nat) : Int := if nanB a = true then 4 else if rung a = 0 then 0 else if infB a = true then 3 else if rung a < 4503599627370496 then 1 else 2
def flo_canon.f (a : Int) : Option Int := if 0 ≤ a ∧ a < 18446744073709551616 then some (if nanB a.toNat = true then 9221120237041090560 else a) else none
def flo_kind.f (a : Int) : Option Int := if 0 ≤ a ∧ a < 18446744073709551616 then some (kindV a.toNat) else none
def flo_Equal.f (a b : Int) : Option Bool := if (0 ≤ a ∧ a < 18446744073709551616) ∧ 0 ≤ b ∧ b < 18446744073709551616 then some (eqB a.toNat b.toNat) else none
theorem ext_bits (n : Int) (w : World) : (callFunc 96 #[.int .u64 n]).run Tryd.prog w = .ok (.value (.float .f64 n.toNat)) w := by
  rw [run_callFunc_extern Tryd.func96 (by kernel_rfl) (by kernel_rfl) (by kernel_rfl) (e := Extern.MathFloatBits.float64frombits) (by kernel_rfl)]
  rfl
theorem flo_canon.calls (a r : Int) (w : World) (h : flo_canon.f a = some r) : Calls Tryd.prog 90 #[.int .u64 a] w fun e w' => e = .returned (.int .u64 r) ∧ Drawn0 w w' := by
  unfold flo_canon.f at h
  by_cases hb : 0 ≤ a ∧ a < 18446744073709551616
  · rw [if_pos hb] at h
    obtain rfl := Option.some.inj h
    have ho : (FloatKind.f64.format.order a.toNat a.toNat != some Ordering.eq) = nanB a.toNat := order_self (a := a.toNat) (by omega)
    have hx := ext_bits
    clear h hb
    cases hn : nanB a.toNat with
    | true =>
      rw [if_pos rfl]
      rw [hn] at ho
      clear hn
      go_enter Tryd.func90, Tryd.ntmps90
      go_wp2
      go_ret
      exact ⟨rfl, Drawn0.refl _⟩
    | false =>
      rw [if_neg (by decide)]
      rw [hn] at ho
      clear hn
      go_enter Tryd.func90, Tryd.ntmps90
      go_wp2
      go_ret
      exact ⟨rfl, Drawn0.refl _⟩
  · rw [if_neg hb] at h
    cases h
theorem run_sub_inf {P : Program} (t : TypeId) {x : Nat} (h : infB x = true) (w : World) : ∃ b, (FloatKind.f64.format.order b 0 != some Ordering.eq) = true ∧ (binOp .sub t (.float .f64 x) (.float .f64 x)).run P w = .ok (.float .f64 b) w.drew := by
  have hs : FloatKind.f64.format.sub x x = none := sub_inf h
  refine ⟨Question.cut (.nanBits .f64 x x) (w.tape w.drawn (.nanBits .f64 x x)), ?_, ?_⟩
  · generalize w.tape w.drawn (.nanBits .f64 x x) = t
    have hn : nanB (Question.cut (.nanBits .f64 x x) t) = true := by
      show decide (9218868437227405312 < rung ((t % 2) * 2 ^ 63 + 0x7ff0000000000000 + 1 + (t / 2) % (2 ^ 52 - 1))) = true
      refine decide_eq_true ?_
      unfold rung
      have hu : t / 2 % (2 ^ 52 - 1) < 4503599627370495 := Nat.mod_lt _ (by decide)
      generalize t / 2 % (2 ^ 52 - 1) = u at hu
      rcases (show t % 2 = 0 ∨ t % 2 = 1 by omega) with e | e
      · rw [e]; omega
      · rw [e]; omega
    have ho : Ieee.double.order (Question.cut (.nanBits .f64 x x) t) 0 = none := order_nan (.inl hn)
    show (Ieee.double.order (Question.cut (.nanBits .f64 x x) t) 0 != some Ordering.eq) = true
    rw [ho]
    rfl
  · simp [binOp, Op.floatArith, hs, choose, Sem.run, Question.forced]
    try rfl
theorem run_sub_fin {P : Program} (t : TypeId) {x : Nat} (h : nanB x = false) (h2 : infB x = false) (w : World) : (binOp .sub t (.float .f64 x) (.float .f64 x)).run P w = .ok (.float .f64 0) w :=
  run_float_arith w .sub t .f64 x x 0 (sub_self h h2)
theorem expB (a : Int) (h0 : 0 ≤ a) (h1 : a < 18446744073709551616) : (Go.bits .and .u64 (a / 4503599627370496) 2047 == 0) = decide (rung a.toNat < 4503599627370496) := by
  obtain ⟨n, rfl⟩ := Int.eq_ofNat_of_zero_le h0
  have hb : Go.bits .and .u64 ((n : Int) / 4503599627370496) 2047 = ((n / 4503599627370496 % 2048 : Nat) : Int) := by
    have e1 : ((n : Int) / 4503599627370496) = ((n / 4503599627370496 : Nat) : Int) := by omega
    rw [e1]
    have hlt : n / 4503599627370496 < 2 ^ 64 := by omega
    unfold Go.bits
    rw [show IntKind.u64.bits = 64 from rfl]
    simp only [BitVec.toNat_and]
    rw [show (BitVec.ofInt 64 2047).toNat = 2 ^ 11 - 1 from rfl]
    have e2 : (BitVec.ofInt 64 ((n / 4503599627370496 : Nat) : Int)).toNat = n / 4503599627370496 := by
      rw [BitVec.ofInt_natCast, BitVec.toNat_ofNat, Nat.mod_eq_of_lt hlt]
    rw [e2, Nat.and_two_pow_sub_one_eq_mod]
    unfold IntKind.wrap
    simp [IntKind.bits, IntKind.signed]
    omega
  rw [hb]
  unfold rung
  rw [Int.toNat_natCast]
  by_cases h : n % 9223372036854775808 < 4503599627370496
  · rw [decide_eq_true h]
    exact beq_iff_eq.2 (by omega)
  · rw [decide_eq_false h]
    exact beq_eq_false_iff_ne.2 (by omega)
end Go.Proofs.YtlhnkfheojlghaaDoor.Pr
