/- disk.goes: a contract of its call. -/
import Derived.Test.YtlbeehefandfhaaProg
import Derived.Below
import Derived.Deep.Draws
import Derived.Deep.AppendLies
import Derived.Maps.AppendAt
import Derived.OwnWalk
import Derived.Laws.BytesArg
import Derived.Laws.MakeOwn
import Derived.Laws.OwnMore
import Derived.Deep.OwnRows
import Derived.Tactics
import Derived.Lib.ConvBytes
import Derived.Laws.Slices
import Derived.WalkKit
import Derived.KernelRfl
import Derived.RowKit3
import Derived.Deep.LoopGhost
import Derived.Deep.QuietTactic
import Derived.BigQuiet
import Derived.WideLaws
import Derived.Deep.DeepCutAuto
import Derived.Deep.CutBlock
import Derived.Deep.RegionHeld3
import Derived.Laws.Rows
import Derived.Lib.AppendStr
import Derived.ArgAppend
import Derived.Laws.IdiomCopy
import Derived.OrdersHeld
import Derived.Laws.BitsLemmas
import Derived.RowKit
import Derived.Test.YtlbeehefandfhaaWWords
import Derived.Test.YtlbeehefandfhaaWLast
import Derived.Test.YtlbeehefandfhaaWTab
import Derived.Test.YtlbeehefandfhaaWFour
import Derived.Test.YtlbeehefandfhaaWQPut
import Derived.Test.YtlbeehefandfhaaWApart
import Derived.Test.YtlbeehefandfhaaWArr
import Derived.Test.YtlbeehefandfhaaWZeros
import Derived.Test.YtlbeehefandfhaaWFoot
import Derived.Test.YtlbeehefandfhaaWKept
import Derived.Test.YtlbeehefandfhaaWShare
import Derived.Test.YtlbeehefandfhaaWN
import Derived.Test.YtlbeehefandfhaaWFootNe
import Derived.Test.YtlbeehefandfhaaWAt
import Derived.Test.YtlbeehefandfhaaWEqStruct
import Derived.Test.YtlbeehefandfhaaWRepsOne
import Derived.Test.YtlbeehefandfhaaWInv
import Derived.Test.YtlbeehefandfhaaWInvWords
import Derived.Test.YtlbeehefandfhaaWGuard
import Derived.Test.YtlbeehefandfhaaWNEv
import Derived.Test.YtlbeehefandfhaaWMore
import Derived.Test.YtlbeehefandfhaaDiskB
import Derived.Test.YtlbeehefandfhaaDiskP
namespace Go.Proofs.Ytlbeehefandfhaa.Pr
open Go.RowKit Go.Maps Go.Proofs.YtlbeehefandfhaaW.PrintWords Go.Proofs.YtlbeehefandfhaaW.PrintLast Go.Proofs.YtlbeehefandfhaaW.PrintMore
set_option linter.unusedVariables false
set_option linter.unusedSimpArgs false
def absF (f : FileM) : PF := ⟨f.name, f.bs, f.fast⟩
def DiskM.abs (s : DiskM) : PD := ⟨s.L.map absF, s.size, s.calls, s.out⟩
structure Good (s : DiskM) : Prop where
  wf : WF s.abs
  used : s.used = total s.abs.F
theorem Good.u0 {s : DiskM} (h : Good s) : 0 ≤ s.used := by rw [h.used]; exact total_nonneg _
theorem Good.u1 {s : DiskM} (h : Good s) : s.used ≤ s.size := by rw [h.used]; exact h.wf.room
theorem Good.s1 {s : DiskM} (h : Good s) : s.size ≤ 67108864 := h.wf.size1
def DiskM.goes (s : DiskM) : DiskM := { s with calls := if s.calls ≤ 0 then s.calls else s.calls - 1, out := s.out || decide (s.calls = 0) }
theorem abs_goes (s : DiskM) : s.goes.abs = s.abs.goes := rfl
theorem WF.goes {s : PD} (h : WF s) : WF s.goes := by
  refine ⟨h.size0, h.size1, h.room, h.fast, ?_, ?_, h.names, h.sorted⟩
  · show -1 ≤ if s.calls ≤ 0 then s.calls else s.calls - 1
    have := h.calls0
    split <;> omega
  · show (if s.calls ≤ 0 then s.calls else s.calls - 1) ≤ _
    have := h.calls1
    split <;> omega
theorem Good.goes {s : DiskM} (h : Good s) : Good s.goes := ⟨by rw [abs_goes]; exact h.wf.goes, h.used⟩
section
variable {w : World} {B : Nat} {s : DiskM}
theorem DiskIs.c0 (h : DiskIs w B s) : w.cell? ⟨s.d, 0, none⟩ = some (.map (some s.m)) := by rw [cell_of_row w s.d 0 _ _ _ h.head]; rfl
theorem DiskIs.c1 (h : DiskIs w B s) : w.cell? ⟨s.d, 1, none⟩ = some (.int .i64 s.size) := by rw [cell_of_row w s.d 1 _ _ _ h.head]; rfl
theorem DiskIs.c2 (h : DiskIs w B s) : w.cell? ⟨s.d, 2, none⟩ = some (.int .i64 s.used) := by rw [cell_of_row w s.d 2 _ _ _ h.head]; rfl
theorem DiskIs.c3 (h : DiskIs w B s) : w.cell? ⟨s.d, 3, none⟩ = some (.int .i64 s.calls) := by rw [cell_of_row w s.d 3 _ _ _ h.head]; rfl
theorem DiskIs.c4 (h : DiskIs w B s) : w.cell? ⟨s.d, 4, none⟩ = some (.bool s.out) := by rw [cell_of_row w s.d 4 _ _ _ h.head]; rfl
theorem DiskIs.fz (h : DiskIs w B s) (j : Nat) : w.frozen? ⟨s.d, j, none⟩ = false := blk_frozen h.head _
theorem FileIs.c0 {f : FileM} (h : FileIs w B f) : w.cell? ⟨f.p, 0, none⟩ = some f.v := by rw [cell_of_row w f.p 0 _ _ _ h.head]; rfl
theorem FileIs.c1 {f : FileM} (h : FileIs w B f) : w.cell? ⟨f.p, 1, none⟩ = some (.int .i64 f.fast) := by rw [cell_of_row w f.p 1 _ _ _ h.head]; rfl
theorem FileIs.fz {f : FileM} (h : FileIs w B f) (j : Nat) : w.frozen? ⟨f.p, j, none⟩ = false := blk_frozen h.head _
end
theorem goes_calls (w : World) (B : Nat) (s : DiskM) (h : DiskIs w B s) (g : Good s) :
    Calls Try.prog 20 #[.pointer (some ⟨s.d, 0, none⟩)] w fun e w' => e = .returned (.bool s.goes.out) ∧ DiskIs w' B s.goes ∧ StepD w s w' s.goes := by
  have h0 := g.wf.calls0
  have h1 := g.wf.calls1
  change -1 ≤ s.calls at h0
  change s.calls ≤ 9223372036854775807 at h1
  have k3 := h.c3
  have k4 := h.c4
  have f3 := h.fz 3
  have f4 := h.fz 4
  have H := Aside0.mk h
  have G := Aside0.mk g
  clear h g
  by_cases c1 : s.calls < 0
  · have hd : decide (s.calls < 0) = true := decide_eq_true c1
    go_enter Try.func20, Try.ntmps20
    go_wp2
    go_ret
    have e : s.goes = s := by
      unfold DiskM.goes
      rw [if_pos (by omega), decide_eq_false (by omega), Bool.or_false]
    rw [e]
    exact ⟨rfl, H.out, StepD.refl _ _⟩
  · by_cases c2 : s.calls = 0
    · have hd : decide (s.calls < 0) = false := decide_eq_false c1
      have he : (s.calls == 0) = true := beq_iff_eq.2 c2
      have hE := Aside0.mk c2
      clear c2
      go_enter Try.func20, Try.ntmps20
      go_wp2
      go_ret
      have e : s.goes = { s with out := true } := by
        unfold DiskM.goes
        have hn : s.calls ≤ 0 := by have := hE.out; omega
        rw [if_pos hn, decide_eq_true hE.out, Bool.or_true]
      rw [e]
      obtain ⟨d1, d2⟩ := H.out.headed (w' := w.setCell ⟨s.d, 4, none⟩ (.bool true)) (s' := { s with out := true }) rfl rfl rfl (by rw [blk_set H.out.head 4 (.bool true)]; rfl) (fun k _ hk => Below.heap_setCell _ _ _ _ hk)
      exact ⟨rfl, d1, ⟨(Moved.refl _ _).setCell (.inl (.inl rfl)) _, d2⟩⟩
    · have hd : decide (s.calls < 0) = false := decide_eq_false c1
      have he : (s.calls == 0) = false := beq_eq_false_iff_ne.2 c2
      have hE := Aside0.mk c2
      clear c2
      go_enter Try.func20, Try.ntmps20
      go_wp2
      go_ret
      have := hE.out
      have e : s.goes = { s with calls := s.calls - 1 } := by
        unfold DiskM.goes
        have hn : ¬ s.calls ≤ 0 := by omega
        rw [if_neg hn, decide_eq_false hE.out, Bool.or_false]
      rw [e]
      obtain ⟨d1, d2⟩ := H.out.headed (w' := w.setCell ⟨s.d, 3, none⟩ (.int .i64 (s.calls - 1))) (s' := { s with calls := s.calls - 1 }) rfl rfl rfl (by rw [blk_set H.out.head 3 _]; rfl) (fun k _ hk => Below.heap_setCell _ _ _ _ hk)
      exact ⟨rfl, d1, ⟨(Moved.refl _ _).setCell (.inl (.inl rfl)) _, d2⟩⟩
end Go.Proofs.Ytlbeehefandfhaa.Pr
