/- disk.at, Used, Cut, Fast: contracts of their calls. -/
import Derived.Test.YtlbeehefandfhaaProg
import Derived.Below
import Derived.Deep.Draws
import Derived.Deep.AppendLies
import Derived.Maps.AppendAt
import Derived.OwnWalk
import Derived.Laws.BytesArg
import Derived.Laws.MakeOwn
import Derived.Laws.OwnMore
import Derived.Deep.OwnRows
import Derived.Tactics
import Derived.Lib.ConvBytes
import Derived.Laws.Slices
import Derived.WalkKit
import Derived.KernelRfl
import Derived.RowKit3
import Derived.Deep.LoopGhost
import Derived.Deep.QuietTactic
import Derived.BigQuiet
import Derived.WideLaws
import Derived.Deep.DeepCutAuto
import Derived.Deep.CutBlock
import Derived.Deep.RegionHeld3
import Derived.Laws.Rows
import Derived.Lib.AppendStr
import Derived.ArgAppend
import Derived.Laws.IdiomCopy
import Derived.OrdersHeld
import Derived.Laws.BitsLemmas
import Derived.RowKit
import Derived.Test.YtlbeehefandfhaaWWords
import Derived.Test.YtlbeehefandfhaaWLast
import Derived.Test.YtlbeehefandfhaaWTab
import Derived.Test.YtlbeehefandfhaaWFour
import Derived.Test.YtlbeehefandfhaaWQPut
import Derived.Test.YtlbeehefandfhaaWApart
import Derived.Test.YtlbeehefandfhaaWArr
import Derived.Test.YtlbeehefandfhaaWZeros
import Derived.Test.YtlbeehefandfhaaWFoot
import Derived.Test.YtlbeehefandfhaaWKept
import Derived.Test.YtlbeehefandfhaaWShare
import Derived.Test.YtlbeehefandfhaaWN
import Derived.Test.YtlbeehefandfhaaWFootNe
import Derived.Test.YtlbeehefandfhaaWAt
import Derived.Test.YtlbeehefandfhaaWEqStruct
import Derived.Test.YtlbeehefandfhaaWRepsOne
import Derived.Test.YtlbeehefandfhaaWInv
import Derived.Test.YtlbeehefandfhaaWInvWords
import Derived.Test.YtlbeehefandfhaaWGuard
import Derived.Test.YtlbeehefandfhaaWNEv
import Derived.Test.YtlbeehefandfhaaWMore
import Derived.Test.YtlbeehefandfhaaDiskD
import Derived.Lib.SmallJoins
namespace Go.Proofs.Ytlbeehefandfhaa.Pr
open Go.RowKit Go.Maps Go.Proofs.YtlbeehefandfhaaW.PrintWords Go.Proofs.YtlbeehefandfhaaW.PrintLast Go.Proofs.YtlbeehefandfhaaW.PrintMore
set_option linter.unusedVariables false
set_option linter.unusedSimpArgs false
theorem getP_abs (n : List UInt8) : ∀ L : List FileM, getP n (L.map absF) = (getF n L).map absF
  | [] => rfl
  | f :: r => by
    unfold getP getF
    rw [List.map_cons, List.find?_cons, List.find?_cons]
    show (match (f.name == n) with | true => _ | false => _) = _
    cases (f.name == n) with
    | true => rfl
    | false => exact getP_abs n r
/-- What 'at' answers. -/
def atE (s : DiskM) (n : List UInt8) : Int := if s.goes.out then 200 else if (getF n s.L).isSome then 0 else 5
def atP (s : DiskM) (n : List UInt8) : Value := if s.goes.out then .pointer none else ptrOf (getF n s.L)
theorem look_at {w : World} {B : Nat} {s : DiskM} (h : DiskIs w B s) (nm : ByteArray) (hs : nm.size ≤ maxLen) :
    (Instr.lookup 56 (.map (some s.m)) (.string nm) false).run Try.prog w = .ok (ptrOf (getF nm.data.toList s.L)) w := look_run h.map nm hs
set_option maxHeartbeats 400000 in
theorem at_calls (w : World) (B : Nat) (s : DiskM) (h : DiskIs w B s) (g : Good s) (nm : ByteArray) (hs : nm.size ≤ maxLen) :
    Calls Try.prog 22 #[.pointer (some ⟨s.d, 0, none⟩), .string nm] w fun e w' => e = .returned (.tuple #[atP s nm.data.toList, .int .i64 (atE s nm.data.toList)]) ∧ DiskIs w' B s.goes ∧ StepD w s w' s.goes := by
  have hl := look_at h nm hs
  have k0 := h.c0
  have H := Aside0.mk h
  have G := Aside0.mk g
  clear h g
  cases hg : getF nm.data.toList s.L with
  | none =>
    rw [hg] at hl
    simp only [ptrOf] at hl
    have HG := Aside0.mk hg
    clear hg
    cases ho : s.goes.out with
    | true =>
      have HO := Aside0.mk ho
      clear ho
      go_enter Try.func22, Try.ntmps22
      go_wp2_with (go_at_call 20; refine (goes_calls w B s H.out G.out).mono ?_; rintro e w1 ⟨he, hD, hS⟩; rw [HO.out] at he; subst he; have HD := Aside0.mk hD; have HS := Aside0.mk hS; clear hD hS)
      go_ret2
      exact ⟨by unfold atP atE; rw [HO.out]; rfl, HD.out, HS.out⟩
    | false =>
      have HO := Aside0.mk ho
      clear ho
      go_enter Try.func22, Try.ntmps22
      go_wp2_with (go_at_call 20; refine (goes_calls w B s H.out G.out).mono ?_; rintro e w1 ⟨he, hD, hS⟩; rw [HO.out] at he; subst he; have HD := Aside0.mk hD; have HS := Aside0.mk hS; clear hD hS)
      go_ret2
      exact ⟨by unfold atP atE; rw [HO.out, HG.out]; rfl, HD.out, HS.out⟩
  | some f =>
    rw [hg] at hl
    simp only [ptrOf] at hl
    have HG := Aside0.mk hg
    clear hg
    cases ho : s.goes.out with
    | true =>
      have HO := Aside0.mk ho
      clear ho
      go_enter Try.func22, Try.ntmps22
      go_wp2_with (go_at_call 20; refine (goes_calls w B s H.out G.out).mono ?_; rintro e w1 ⟨he, hD, hS⟩; rw [HO.out] at he; subst he; have HD := Aside0.mk hD; have HS := Aside0.mk hS; clear hD hS)
      go_ret2
      exact ⟨by unfold atP atE; rw [HO.out]; rfl, HD.out, HS.out⟩
    | false =>
      have HO := Aside0.mk ho
      clear ho
      go_enter Try.func22, Try.ntmps22
      go_wp2_with (go_at_call 20; refine (goes_calls w B s H.out G.out).mono ?_; rintro e w1 ⟨he, hD, hS⟩; rw [HO.out] at he; subst he; have HD := Aside0.mk hD; have HS := Aside0.mk hS; clear hD hS)
      go_ret2
      exact ⟨by unfold atP atE; rw [HO.out, HG.out]; rfl, HD.out, HS.out⟩
theorem used_calls (w : World) (B : Nat) (s : DiskM) (h : DiskIs w B s) :
    Calls Try.prog 15 #[.pointer (some ⟨s.d, 0, none⟩)] w fun e w' => e = .returned (.int .i64 s.used) ∧ w = w' := by
  have k2 := h.c2
  clear h
  go_enter Try.func15, Try.ntmps15
  go_wp2
  go_ret
  exact ⟨rfl, rfl⟩
theorem WF.cut {s : PD} (h : WF s) (n : Int) (hn : n ≤ 9223372036854775807) : WF (pCut s n) := by
  refine ⟨h.size0, h.size1, h.room, h.fast, ?_, ?_, h.names, h.sorted⟩
  · show -1 ≤ max n (-1); omega
  · show max n (-1) ≤ _; omega
theorem cut_calls (w : World) (B : Nat) (s : DiskM) (h : DiskIs w B s) (g : Good s) (n : Int) (h1 : -9223372036854775808 ≤ n) (h2 : n ≤ 9223372036854775807) :
    Calls Try.prog 16 #[.pointer (some ⟨s.d, 0, none⟩), .int .i64 n] w fun e w' => e = .returned (.tuple #[]) ∧ ∃ s', DiskIs w' B s' ∧ StepD w s w' s' ∧ Good s' ∧ s'.abs = pCut s.abs n ∧ s'.d = s.d := by
  have k3 := h.c3
  have f3 := h.fz 3
  have H := Aside0.mk h
  have G := Aside0.mk g
  clear h g
  by_cases hn : n < -1
  · have hd : decide (n < -1) = true := decide_eq_true hn
    go_enter Try.func16, Try.ntmps16
    go_wp2
    go_end0
    obtain ⟨d1, d2⟩ := H.out.headed (w' := w.setCell ⟨s.d, 3, none⟩ (.int .i64 (-1))) (s' := { s with calls := -1 }) rfl rfl rfl (by rw [blk_set H.out.head 3 _]; rfl) (fun k _ hk => Below.heap_setCell _ _ _ _ hk)
    have e : ({ s with calls := -1 } : DiskM).abs = pCut s.abs n := by unfold pCut; rw [show max n (-1) = -1 by omega]; rfl
    exact ⟨rfl, _, d1, ⟨(Moved.refl _ _).setCell (.inl (.inl rfl)) _, d2⟩, ⟨by rw [e]; exact G.out.wf.cut n h2, G.out.used⟩, e, rfl⟩
  · have hd : decide (n < -1) = false := decide_eq_false hn
    go_enter Try.func16, Try.ntmps16
    go_wp2
    go_end0
    obtain ⟨d1, d2⟩ := H.out.headed (w' := w.setCell ⟨s.d, 3, none⟩ (.int .i64 n)) (s' := { s with calls := n }) rfl rfl rfl (by rw [blk_set H.out.head 3 _]; rfl) (fun k _ hk => Below.heap_setCell _ _ _ _ hk)
    have e : ({ s with calls := n } : DiskM).abs = pCut s.abs n := by unfold pCut; rw [show max n (-1) = n by omega]; rfl
    exact ⟨rfl, _, d1, ⟨(Moved.refl _ _).setCell (.inl (.inl rfl)) _, d2⟩, ⟨by rw [e]; exact G.out.wf.cut n h2, G.out.used⟩, e, rfl⟩
theorem fast_calls (w : World) (B : Nat) (s : DiskM) (h : DiskIs w B s) (nm : ByteArray) (hs : nm.size ≤ maxLen) :
    Calls Try.prog 13 #[.pointer (some ⟨s.d, 0, none⟩), .string nm] w fun e w' => e = .returned (.int .i64 (pFast s.abs nm.data.toList)) ∧ w = w' := by
  have hl := look_at h nm hs
  have k0 := h.c0
  have hp : pFast s.abs nm.data.toList = match getF nm.data.toList s.L with | some f => (f.fast : Int) | none => 0 := by
    unfold pFast
    rw [show s.abs.F = s.L.map absF from rfl, getP_abs]
    cases getF nm.data.toList s.L <;> rfl
  cases hg : getF nm.data.toList s.L with
  | none =>
    rw [hg] at hl hp
    simp only [ptrOf] at hl
    have HP := Aside0.mk hp
    clear hg hp h
    go_enter Try.func13, Try.ntmps13
    go_wp2
    go_ret
    exact ⟨by rw [HP.out]; rfl, rfl⟩
  | some f =>
    rw [hg] at hl hp
    simp only [ptrOf] at hl
    have hf := (h.file f (List.mem_of_find?_eq_some hg)).c1
    have HP := Aside0.mk hp
    clear hg hp h
    go_enter Try.func13, Try.ntmps13
    go_wp2
    go_ret
    exact ⟨by rw [HP.out]; rfl, rfl⟩
end Go.Proofs.Ytlbeehefandfhaa.Pr
