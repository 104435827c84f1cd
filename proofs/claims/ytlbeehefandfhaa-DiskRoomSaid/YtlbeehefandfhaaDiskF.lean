/- disk.Sync: a contract of its call. -/
import Derived.Test.YtlbeehefandfhaaProg
import Derived.Below
import Derived.Deep.Draws
import Derived.Deep.AppendLies
import Derived.Maps.AppendAt
import Derived.OwnWalk
import Derived.Laws.BytesArg
import Derived.Laws.MakeOwn
import Derived.Laws.OwnMore
import Derived.Deep.OwnRows
import Derived.Tactics
import Derived.Lib.ConvBytes
import Derived.Laws.Slices
import Derived.WalkKit
import Derived.KernelRfl
import Derived.RowKit3
import Derived.Deep.LoopGhost
import Derived.Deep.QuietTactic
import Derived.BigQuiet
import Derived.WideLaws
import Derived.Deep.DeepCutAuto
import Derived.Deep.CutBlock
import Derived.Deep.RegionHeld3
import Derived.Laws.Rows
import Derived.Lib.AppendStr
import Derived.ArgAppend
import Derived.Laws.IdiomCopy
import Derived.OrdersHeld
import Derived.Laws.BitsLemmas
import Derived.RowKit
import Derived.Test.YtlbeehefandfhaaWWords
import Derived.Test.YtlbeehefandfhaaWLast
import Derived.Test.YtlbeehefandfhaaWTab
import Derived.Test.YtlbeehefandfhaaWFour
import Derived.Test.YtlbeehefandfhaaWQPut
import Derived.Test.YtlbeehefandfhaaWApart
import Derived.Test.YtlbeehefandfhaaWArr
import Derived.Test.YtlbeehefandfhaaWZeros
import Derived.Test.YtlbeehefandfhaaWFoot
import Derived.Test.YtlbeehefandfhaaWKept
import Derived.Test.YtlbeehefandfhaaWShare
import Derived.Test.YtlbeehefandfhaaWN
import Derived.Test.YtlbeehefandfhaaWFootNe
import Derived.Test.YtlbeehefandfhaaWAt
import Derived.Test.YtlbeehefandfhaaWEqStruct
import Derived.Test.YtlbeehefandfhaaWRepsOne
import Derived.Test.YtlbeehefandfhaaWInv
import Derived.Test.YtlbeehefandfhaaWInvWords
import Derived.Test.YtlbeehefandfhaaWGuard
import Derived.Test.YtlbeehefandfhaaWNEv
import Derived.Test.YtlbeehefandfhaaWMore
import Derived.Test.YtlbeehefandfhaaDiskE
import Derived.Test.YtlbeehefandfhaaDiskQ
import Derived.Lib.SliceRun
namespace Go.Proofs.Ytlbeehefandfhaa.Pr
open Go.RowKit Go.Maps Go.Proofs.YtlbeehefandfhaaW.PrintWords Go.Proofs.YtlbeehefandfhaaW.PrintLast Go.Proofs.YtlbeehefandfhaaW.PrintMore
set_option linter.unusedVariables false
set_option linter.unusedSimpArgs false
/-- What a call that changes the disk leaves. -/
structure OpDone (w : World) (B : Nat) (s : DiskM) (p : PD) (w' : World) (s' : DiskM) : Prop where
  disk : DiskIs w' B s'
  step : StepD w s w' s'
  good : Good s'
  abs : s'.abs = p
  d : s'.d = s.d
  m : s'.m = s.m
theorem OpDone.goes {w w' : World} {B : Nat} {s : DiskM} {p : PD} (h1 : DiskIs w' B s.goes) (h2 : StepD w s w' s.goes) (g : Good s) (hp : p = s.abs.goes) : OpDone w B s p w' s.goes := ⟨h1, h2, g.goes, by rw [abs_goes, hp], rfl, rfl⟩
def OpPost (w : World) (B : Nat) (s : DiskM) (r : PD × Int) (e : Ending) (w' : World) : Prop := e = .returned (.int .i64 r.2) ∧ ∃ s', OpDone w B s r.1 w' s'
/-- One file, and the head, have been written. -/
theorem OpDone.upd {w w1 w' : World} {B : Nat} {s t s' : DiskM} {p : PD} (hs : StepD w s w1 t) (hd : t.d = s.d) (hm : t.m = s.m) (h : DiskIs w1 B t) (g : Good t) {L1 L2 : List FileM} {f f' : FileM} (hL : t.L = L1 ++ f :: L2) (e' : s' = { t with L := L1 ++ f' :: L2, used := t.used - f.bs.length + f'.bs.length })
    (hn : f'.name = f.name) (hp : f'.p = f.p) (hfast : f'.fast ≤ f'.bs.length) (hroom : t.used - f.bs.length + f'.bs.length ≤ t.size)
    (hhead : w'.heap[t.d]? = some (.cells (cellsD s') 58 (0, 0))) (hfile : FileIs w' B f') (hat : ∀ k, f'.v.ownBlock = some k → f.v.ownBlock = some k ∨ w1.heap.size ≤ k)
    (hmv : ∀ F, (∀ k, k = t.d ∨ k = f.p ∨ f.v.ownBlock = some k → F k) → Moved F w1 w') (hab : s'.abs = p) : OpDone w B s p w' s' := by
  subst e'
  have hM := hmv (fun k => k = t.d ∨ k = f.p ∨ f.v.ownBlock = some k) (fun k h => h)
  obtain ⟨h1, h2⟩ := h.upd (s' := { t with L := L1 ++ f' :: L2, used := t.used - f.bs.length + f'.bs.length }) hL rfl rfl rfl hn hp hhead hfile hat (fun k hk h1 h2 h3 => hM.block k (h.foot hk).2 (fun hf => by rcases hf with h | h | h; exact h1 h; exact h2 h; exact h3 h))
  have hfm : f ∈ t.L := by rw [hL]; simp
  have hM2 : Moved (Foot20 t) w1 w' := hmv _ (fun k hk => by
    rcases hk with rfl | rfl | hk
    · exact .inl rfl
    · exact .inr (.inr ⟨f, hfm, .inl rfl⟩)
    · exact .inr (.inr ⟨f, hfm, .inr hk⟩))
  have hF : t.abs.F = L1.map absF ++ absF f :: L2.map absF := by show t.L.map absF = _; rw [hL]; simp
  have hu := g.used
  have hW := g.wf.at (f' := absF f') hF hn hfast (by
    show total t.abs.F - (f.bs.length : Int) + f'.bs.length ≤ t.size
    rw [← hu]; exact hroom)
  have hT : total (L1.map absF ++ absF f' :: L2.map absF) = t.used - f.bs.length + f'.bs.length := by
    rw [hu, hF, total_at, total_at]
    show total _ + (f'.bs.length : Int) + _ = _ + (f.bs.length : Int) + _ - _ + _
    omega
  have hA : ({ t with L := L1 ++ f' :: L2, used := t.used - f.bs.length + f'.bs.length } : DiskM).abs = { t.abs with F := L1.map absF ++ absF f' :: L2.map absF } := by
    unfold DiskM.abs
    simp
  refine ⟨h1, hs.trans ⟨hM2, h2⟩, ⟨by rw [hA]; exact hW, by rw [hA]; exact hT.symm⟩, hab, hd, hm⟩
theorem abs_at {t : DiskM} {L1 L2 : List FileM} {f : FileM} {n : List UInt8} (hL : t.L = L1 ++ f :: L2) (hf : f.name = n) (h1 : ∀ g ∈ L1, g.name ≠ n) (g : PF → PF) : updP n g t.abs.F = L1.map absF ++ g (absF f) :: L2.map absF := by
  have hF : t.abs.F = L1.map absF ++ absF f :: L2.map absF := by show t.L.map absF = _; rw [hL]; simp
  rw [hF]
  exact updP_at n g (absF f) _ hf _ (fun x hx => by obtain ⟨y, hy, rfl⟩ := List.mem_map.1 hx; exact h1 y hy)
theorem getP_at {t : DiskM} {f : FileM} {n : List UInt8} (hg : getF n t.L = some f) : getP n t.abs.F = some (absF f) := by
  show getP n (t.L.map absF) = _
  rw [getP_abs, hg]; rfl
theorem getP_none {t : DiskM} {n : List UInt8} (hg : getF n t.L = none) : getP n t.abs.F = none := by
  show getP n (t.L.map absF) = _
  rw [getP_abs, hg]; rfl
theorem bs_le {s : DiskM} (g : Good s) {f : FileM} (hf : f ∈ s.L) : (f.bs.length : Int) ≤ s.used ∧ f.fast ≤ f.bs.length := by
  obtain ⟨A, C, hL⟩ := List.append_of_mem hf
  have hF : s.abs.F = A.map absF ++ absF f :: C.map absF := by show s.L.map absF = _; rw [hL]; simp
  refine ⟨?_, g.wf.fast (absF f) (by rw [hF]; simp)⟩
  rw [g.used, hF, total_at]
  have h1 := total_nonneg (A.map absF)
  have h2 := total_nonneg (C.map absF)
  show (f.bs.length : Int) ≤ _ + (f.bs.length : Int) + _
  omega
theorem sync_calls (w : World) (B : Nat) (s : DiskM) (h : DiskIs w B s) (g : Good s) (nm : ByteArray) (hs : nm.size ≤ maxLen) :
    Calls Try.prog 10 #[.pointer (some ⟨s.d, 0, none⟩), .string nm] w (OpPost w B s (pSync s.abs nm.data.toList)) := by
  have hat := at_calls w B s h g nm hs
  have HAT := Aside0.mk hat
  have G := Aside0.mk g
  clear hat h g
  cases ho : s.goes.out with
  | true =>
    have hp : pSync s.abs nm.data.toList = (s.abs.goes, 200) := by unfold pSync; rw [← abs_goes, show s.goes.abs.out = true from ho]; rfl
    have hP : atP s nm.data.toList = .pointer none := by unfold atP; rw [ho]; rfl
    have hE : atE s nm.data.toList = 200 := by unfold atE; rw [ho]; rfl
    have HP := Aside0.mk hp
    have HPP := Aside0.mk hP
    have HE := Aside0.mk hE
    clear ho hp hP hE
    go_enter Try.func10, Try.ntmps10
    go_wp2_with (go_at_call 22; refine HAT.out.mono ?_; rintro e w1 ⟨he, hD, hS⟩; rw [HPP.out, HE.out] at he; subst he; have HD := Aside0.mk hD; have HS := Aside0.mk hS; clear hD hS)
    go_ret
    rw [HP.out]
    exact ⟨rfl, _, OpDone.goes HD.out HS.out G.out rfl⟩
  | false =>
    cases hg : getF nm.data.toList s.L with
    | none =>
      have hp : pSync s.abs nm.data.toList = (s.abs.goes, 5) := by unfold pSync; rw [← abs_goes, show s.goes.abs.out = false from ho, getP_none hg]; rfl
      have hP : atP s nm.data.toList = .pointer none := by unfold atP; rw [ho, hg]; rfl
      have hE : atE s nm.data.toList = 5 := by unfold atE; rw [ho, hg]; rfl
      have HP := Aside0.mk hp
      have HPP := Aside0.mk hP
      have HE := Aside0.mk hE
      clear ho hp hP hE hg
      go_enter Try.func10, Try.ntmps10
      go_wp2_with (go_at_call 22; refine HAT.out.mono ?_; rintro e w1 ⟨he, hD, hS⟩; rw [HPP.out, HE.out] at he; subst he; have HD := Aside0.mk hD; have HS := Aside0.mk hS; clear hD hS)
      go_ret
      rw [HP.out]
      exact ⟨rfl, _, OpDone.goes HD.out HS.out G.out rfl⟩
    | some f =>
      have hP : atP s nm.data.toList = .pointer (some ⟨f.p, 0, none⟩) := by unfold atP; rw [ho, hg]; rfl
      have hE : atE s nm.data.toList = 0 := by unfold atE; rw [ho, hg]; rfl
      obtain ⟨L1, L2, hL, hfn, hL1⟩ := getF_some hg
      have hp : pSync s.abs nm.data.toList = ({ s.abs.goes with F := L1.map absF ++ { absF f with fast := f.bs.length } :: L2.map absF }, 0) := by
        unfold pSync
        rw [← abs_goes, show s.goes.abs.out = false from ho, getP_at hg, abs_at hL hfn hL1]; rfl
      have HP := Aside0.mk hp
      have HPP := Aside0.mk hP
      have HE := Aside0.mk hE
      have HL := Aside0.mk hL
      have HM := Aside0.mk (show f ∈ s.goes.L from List.mem_of_find?_eq_some hg)
      have HN := Aside0.mk hfn
      clear ho hp hP hE hg hL hL1 hfn
      obtain ⟨b0, b1⟩ := bs_le G.out.goes HM.out
      have b2 := G.out.goes.u1
      have b3 := G.out.goes.s1
      have BB := Aside0.mk (And.intro b0 (And.intro b2 b3))
      clear b0 b1 b2 b3
      go_enter Try.func10, Try.ntmps10
      go_wp2_with (go_at_call 22; refine HAT.out.mono ?_; rintro e w1 ⟨he, hD, hS⟩; rw [HPP.out, HE.out] at he; subst he; have HD := Aside0.mk hD; have HS := Aside0.mk hS; clear hD hS; have hF := HD.out.file f HM.out; obtain ⟨A, c, hv, hc, hcm⟩ := hF.row.slice; have hf0 := hF.c0; rw [hv] at hf0; have hf1 := hF.c1; have hz1 := hF.fz 1; have HV := Aside0.mk hv; have HF := Aside0.mk hF; clear hv hF)
      go_ret
      rw [HP.out]
      refine ⟨rfl, _, OpDone.upd (f' := { f with fast := f.bs.length }) HS.out rfl rfl HD.out G.out.goes HL.out rfl rfl rfl (Nat.le_refl _) (by have := G.out.goes.u1; show s.goes.used - (f.bs.length : Int) + (f.bs.length : Int) ≤ s.goes.size; omega) ?_ ⟨HF.out.pB, ?_, HF.out.row.move (fun k hk => Below.heap_setCell _ _ _ _ (HD.out.fr HM.out HM.out hk))⟩ (fun k hk => .inl hk) (fun F hF => (Moved.refl _ _).setCell (.inl (hF _ (.inr (.inl rfl)))) _) ?_⟩
      · rw [Below.heap_setCell _ _ _ _ (fun e => HD.out.df HM.out e.symm), HD.out.head]
        congr 2
        unfold cellsD
        simp
      · rw [blk_set HF.out.head 1 _]
        rfl
      · show (⟨(L1 ++ _ :: L2).map absF, _, _, _⟩ : PD) = _
        rw [List.map_append, List.map_cons]
        rfl
end Go.Proofs.Ytlbeehefandfhaa.Pr
