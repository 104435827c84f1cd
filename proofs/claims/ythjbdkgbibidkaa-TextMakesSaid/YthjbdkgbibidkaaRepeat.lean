/- strings.Repeat at this program: the shelf's contract, laid. -/
import Derived.Test.YthjbdkgbibidkaaPr0
import Derived.Test.YthjbdkgbibidkaaIndex
import Derived.Shelf.Lay
import Derived.Shelf.Strings.Repeat
namespace Go.Proofs.Ythjbdkgbibidkaa.Pr
open Go.RowKit Go.Proofs.YthjbdkgbibidkaaW.PrintWords Go.Proofs.YthjbdkgbibidkaaW.PrintLast Go.Proofs.YthjbdkgbibidkaaW.PrintMore Go.Shelf
set_option linter.unusedVariables false
shelf_lay Lays.n105 Nm 105 at Try as Try.laysRepeat
theorem extraRepeat : Builder.Extra Try.prog Try.laysRepeat_ren where
  sizeBuilder := by kernel_rfl
  liesBuilder := by kernel_rfl
  t5 := Try.laysRepeat.t5
  a5 := Try.laysRepeat.a5
  z5 := Try.laysRepeat.z5
  v5 := Try.laysRepeat.v5
  infoByte := by kernel_rfl
  cellsByte := by kernel_rfl
  sizeByte := by kernel_rfl
  neB5 := by decide
theorem fRepeat : Try.laysRepeat_ren.f 105 = 32 := by kernel_rfl
def repeatOf (a0 : ByteArray) (n : Nat) : ByteArray := ⟨(Lib.repeatL a0.data.toList n).toArray⟩
def strings_Repeat.f (a0 : ByteArray) (a1 : Int) : Option ByteArray := if 0 ≤ a1 ∧ a1 ≤ 9223372036854775807 ∧ a0.size * a1.toNat ≤ 140737488355328 then some (repeatOf a0 a1.toNat) else none
theorem strings_Repeat.calls (a0 : ByteArray) (a1 : Int) (r : ByteArray) (w : World) (h : strings_Repeat.f a0 a1 = some r) :
    Calls Try.prog 32 #[.string a0, .int .i64 a1] w fun e w' => e = .returned (.string r) ∧ Below w.heap.size w w' := by
  unfold strings_Repeat.f at h
  by_cases hs : 0 ≤ a1 ∧ a1 ≤ 9223372036854775807 ∧ a0.size * a1.toNat ≤ 140737488355328
  · rw [if_pos hs] at h
    obtain rfl := Option.some.inj h
    obtain ⟨n, rfl⟩ := Int.eq_ofNat_of_zero_le hs.1
    have := Any.strings_Repeat Try.laysRepeat extraRepeat a0 n w (by omega) hs.2.2
    rw [fRepeat] at this
    exact this
  · rw [if_neg hs] at h
    exact absurd h (by simp)
end Go.Proofs.Ythjbdkgbibidkaa.Pr
