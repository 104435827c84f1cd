/- strings.Index at this program: the shelf's contract, laid. -/
import Derived.Test.YthjbdkgbibidkaaPr0
import Derived.Shelf.Lay
import Derived.Shelf.Strings.Search3
import Derived.Shelf.LaysM
import Derived.Shelf.Strings.Shaped
namespace Go.Proofs.Ythjbdkgbibidkaa.Pr
open Go.RowKit Go.Proofs.YthjbdkgbibidkaaW.PrintWords Go.Proofs.YthjbdkgbibidkaaW.PrintLast Go.Proofs.YthjbdkgbibidkaaW.PrintMore Go.Shelf
set_option linter.unusedVariables false
shelf_lay LaysM.n143 Nm 143 at Try as Try.laysIndex
theorem fIndex : Try.laysIndex_ren.f 143 = 29 := by kernel_rfl
theorem gIndex : Try.laysIndex_ren.g 1 = 0 := by kernel_rfl
/-- What the library keeps of the machine: a number, whichever. -/
def MaxLaid (w : World) : Prop := ∃ m, w.cell? ⟨0, 0, none⟩ = some (.int .i64 m)
theorem globBelow {w w' : World} (h : MaxLaid w) (hb : Below w.heap.size w w') : MaxLaid w' := let ⟨m, hm⟩ := h; ⟨m, pw_cell_below hb hm⟩
theorem globDrewN {w : World} (h : MaxLaid w) (n : Nat) : MaxLaid (w.drewN n) := h
theorem globDrew {w : World} (h : MaxLaid w) : MaxLaid w.drew := h
theorem globShaped {w : World} (h : w.ShapedOpen Try.prog) : MaxLaid w := by
  obtain ⟨m, hm⟩ := Try.laysIndex.s1_3 w h
  rw [gIndex] at hm
  exact ⟨m, hm⟩
def strings_Index.f (a0 a1 : ByteArray) : Option Int := if a0.size < 4294967281 then some (Lib.index a0.data.toList a1.data.toList) else none
theorem strings_Index.calls (a0 a1 : ByteArray) (r : Int) (w : World) (hG : MaxLaid w) (h : strings_Index.f a0 a1 = some r) :
    Calls Try.prog 29 #[.string a0, .string a1] w fun e w' => e = .returned (.int .i64 r) ∧ Drawn0 w w' := by
  unfold strings_Index.f at h
  by_cases hs : a0.size < 4294967281
  · rw [if_pos hs] at h
    obtain rfl := Option.some.inj h
    obtain ⟨m, hm⟩ := hG
    have := Any.strings_Index { Try.laysIndex with } a0 a1 m w hs (by rw [gIndex]; exact hm)
    rw [fIndex] at this
    exact this.mono fun e w' ⟨h1, h2⟩ => ⟨h1, by rw [h2]; exact Drawn0.refl w⟩
  · rw [if_neg hs] at h
    exact absurd h (by simp)
end Go.Proofs.Ythjbdkgbibidkaa.Pr
