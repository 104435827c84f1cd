/- disk.drop, Remove: contracts of their calls. -/
import Derived.Test.YtlbeehefandfhaaProg
import Derived.Below
import Derived.Deep.Draws
import Derived.Deep.AppendLies
import Derived.Maps.AppendAt
import Derived.OwnWalk
import Derived.Laws.BytesArg
import Derived.Laws.MakeOwn
import Derived.Laws.OwnMore
import Derived.Deep.OwnRows
import Derived.Tactics
import Derived.Lib.ConvBytes
import Derived.Laws.Slices
import Derived.WalkKit
import Derived.KernelRfl
import Derived.RowKit3
import Derived.Deep.LoopGhost
import Derived.Deep.QuietTactic
import Derived.BigQuiet
import Derived.WideLaws
import Derived.Deep.DeepCutAuto
import Derived.Deep.CutBlock
import Derived.Deep.RegionHeld3
import Derived.Laws.Rows
import Derived.Lib.AppendStr
import Derived.ArgAppend
import Derived.Laws.IdiomCopy
import Derived.OrdersHeld
import Derived.Laws.BitsLemmas
import Derived.RowKit
import Derived.Test.YtlbeehefandfhaaWWords
import Derived.Test.YtlbeehefandfhaaWLast
import Derived.Test.YtlbeehefandfhaaWTab
import Derived.Test.YtlbeehefandfhaaWFour
import Derived.Test.YtlbeehefandfhaaWQPut
import Derived.Test.YtlbeehefandfhaaWApart
import Derived.Test.YtlbeehefandfhaaWArr
import Derived.Test.YtlbeehefandfhaaWZeros
import Derived.Test.YtlbeehefandfhaaWFoot
import Derived.Test.YtlbeehefandfhaaWKept
import Derived.Test.YtlbeehefandfhaaWShare
import Derived.Test.YtlbeehefandfhaaWN
import Derived.Test.YtlbeehefandfhaaWFootNe
import Derived.Test.YtlbeehefandfhaaWAt
import Derived.Test.YtlbeehefandfhaaWEqStruct
import Derived.Test.YtlbeehefandfhaaWRepsOne
import Derived.Test.YtlbeehefandfhaaWInv
import Derived.Test.YtlbeehefandfhaaWInvWords
import Derived.Test.YtlbeehefandfhaaWGuard
import Derived.Test.YtlbeehefandfhaaWNEv
import Derived.Test.YtlbeehefandfhaaWMore
import Derived.Test.YtlbeehefandfhaaDiskN
namespace Go.Proofs.Ytlbeehefandfhaa.Pr
open Go.RowKit Go.Maps Go.Sort Go.Proofs.YtlbeehefandfhaaW.PrintWords Go.Proofs.YtlbeehefandfhaaW.PrintLast Go.Proofs.YtlbeehefandfhaaW.PrintMore
set_option linter.unusedVariables false
set_option linter.unusedSimpArgs false
theorem owns_tight {w : World} {m n : Nat} {L : List FileM} (h : w.ownsMap Try.prog 9 ptrE m n (.map (L.map entE))) : w.ownsMap Try.prog 9 ptrE m L.length (.map (L.map entE)) := by
  obtain ⟨es, clock, hb, F, hs, hD⟩ := h
  refine ⟨es, clock, hb, F, ?_, hD⟩
  have : (L.map entE).length = es.size := by
    injection hD with hD
    rw [hD, length_sorted]
    simp
  rw [List.length_map] at this
  omega
theorem abs_delF (n : List UInt8) (L : List FileM) : (delF n L).map absF = delP n (L.map absF) := by
  unfold delF delP
  rw [List.filter_map]
  rfl
theorem abs_insF (f : FileM) (L : List FileM) : (insF f L).map absF = insP (absF f) (L.map absF) := by
  obtain ⟨L1, L2, e1, e2⟩ := insF_split f L
  rw [e1, e2 (absF f) rfl, List.map_append, List.map_cons]
theorem names_ne {s : DiskM} (g : Good s) {X Y : List FileM} {f : FileM} (hL : s.L = X ++ f :: Y) : (∀ x ∈ X, x.name ≠ f.name) ∧ ∀ y ∈ Y, y.name ≠ f.name := by
  have hs := g.wf.sorted
  rw [show s.abs.F = s.L.map absF from rfl, hL, List.pairwise_map] at hs
  obtain ⟨_, p2, p3⟩ := List.pairwise_append.1 hs
  obtain ⟨p4, _⟩ := List.pairwise_cons.1 p2
  refine ⟨fun x hx e => ?_, fun y hy e => ?_⟩
  · have h1 : bytesBefore x.name f.name = true := p3 x hx f (by simp)
    rw [e, bytesBefore_irrefl] at h1
    cases h1
  · have h1 : bytesBefore f.name y.name = true := p4 y hy
    rw [e, bytesBefore_irrefl] at h1
    cases h1
theorem delF_at {s : DiskM} (g : Good s) {X Y : List FileM} {f : FileM} {n : List UInt8} (hL : s.L = X ++ f :: Y) (hn : f.name = n) : delF n s.L = X ++ Y := by
  obtain ⟨h1, h2⟩ := names_ne g hL
  subst hn
  unfold delF
  rw [hL, List.filter_append, List.filter_cons_of_neg (by simp)]
  rw [List.filter_eq_self.2 fun a ha => by simp [h1 a ha], List.filter_eq_self.2 fun a ha => by simp [h2 a ha]]
/-- What drop leaves. -/
structure DropDone (w : World) (B : Nat) (s : DiskM) (n : List UInt8) (w' : World) (s' : DiskM) : Prop where
  done : OpDone w B s { s.abs with F := delP n s.abs.F } w' s'
  L : s'.L = delF n s.L
set_option maxRecDepth 100000 in
set_option maxHeartbeats 800000 in
theorem drop_calls (w : World) (B : Nat) (s : DiskM) (h : DiskIs w B s) (g : Good s) (nm : ByteArray) (hs : nm.size ≤ maxLen) :
    Calls Try.prog 25 #[.pointer (some ⟨s.d, 0, none⟩), .string nm] w fun e w' => e = .returned (.tuple #[]) ∧ ∃ s', DropDone w B s nm.data.toList w' s' := by
  have hl := look_at h nm hs
  have k0 := h.c0
  have H := Aside0.mk h
  have G := Aside0.mk g
  have HS9 := Aside0.mk hs
  cases hg : getF nm.data.toList s.L with
  | none =>
    rw [hg] at hl
    simp only [ptrOf] at hl
    have hd : delF nm.data.toList s.L = s.L := delF_none (getF_none hg)
    have HD := Aside0.mk hd
    clear hg h g hd
    go_enter Try.func25, Try.ntmps25
    go_wp2
    go_end0
    have e : ({ s.abs with F := delP nm.data.toList s.abs.F } : PD) = s.abs := by
      have : delP nm.data.toList s.abs.F = s.abs.F := by
        show delP _ (s.L.map absF) = s.L.map absF
        rw [← abs_delF, HD.out]
      rw [this]
    exact ⟨rfl, s, ⟨H.out, StepD.refl _ _, G.out, e.symm, rfl, rfl⟩, HD.out.symm⟩
  | some f =>
    rw [hg] at hl
    simp only [ptrOf] at hl
    obtain ⟨L1, L2, hL, hfn, hL1⟩ := getF_some hg
    have hM : f ∈ s.L := List.mem_of_find?_eq_some hg
    have hF := h.file f hM
    obtain ⟨Af, cf, hv, hcf, hcm⟩ := hF.row.slice
    have f0 := hF.c0
    rw [hv] at f0
    have k2 := h.c2
    have k3 := h.fz 2
    obtain ⟨b0, b1⟩ := bs_le g hM
    have b2 := g.u1
    have b3 := g.s1
    have HL := Aside0.mk (And.intro hL hfn)
    clear hg h g hL hfn hL1 hM hF hv
    go_enter Try.func25, Try.ntmps25
    go_wp2_with fail
    go_region
    go_wp2_with (
      at_delete; refine wpList_del_d rfl _ _ rfl s.m s.L.length s.L rfl (owns_move H.out.map (Below.heap_setCell (w.drewN 1) ⟨s.d, 2, none⟩ _ _ (fun e => H.out.dm e.symm))) nm HS9.out rfl ?_; intro w2 hown2 hgr2; have HO := Aside0.mk hown2; have HG := Aside0.mk hgr2; clear hown2 hgr2)
    go_end0
    obtain ⟨hL, hfn⟩ := HL.out
    have hdel := delF_at G.out hL hfn
    have hp1 : w2.heap[s.d]? = _ := (HG.out.block s.d (by have := (H.out.foot (.inl rfl)).2; simpa [World.setCell] using this) (fun e => H.out.dm (by injection e))).trans (blk_set (w := w.drewN 1) H.out.head 2 (.int .i64 (s.used - f.bs.length)))
    have hab : ({ s with L := delF nm.data.toList s.L, used := s.used - f.bs.length } : DiskM).abs = { s.abs with F := delP nm.data.toList s.abs.F } := by
      show (⟨(delF nm.data.toList s.L).map absF, _, _, _⟩ : PD) = _
      rw [abs_delF]
      rfl
    have hW := G.out.wf.del nm.data.toList
    have hU : s.used - (f.bs.length : Int) = total (delP nm.data.toList s.abs.F) := by
      have hF : s.abs.F = L1.map absF ++ absF f :: L2.map absF := by show s.L.map absF = _; rw [hL]; simp
      have := total_del_at nm.data.toList (L1.map absF) (L2.map absF) (absF f) (by rw [← hF]; exact G.out.wf.sorted) hfn
      rw [← hF] at this
      rw [this, ← G.out.used]
      rfl
    obtain ⟨d1, d2⟩ := H.out.remap (w' := w2) (s' := { s with L := delF nm.data.toList s.L, used := s.used - f.bs.length }) rfl rfl (hp1.trans rfl) (owns_tight HO.out) (H.out.apart.sublist List.filter_sublist)
      (fun f hf => .inl ⟨f, (List.mem_filter.1 hf).1, rfl, rfl, rfl, rfl⟩)
      (fun k hk h1 h2 => (HG.out.block k (by simpa [World.setCell] using hk) (fun e => h2 (by injection e))).trans (Below.heap_setCell (w.drewN 1) _ _ _ h1))
    exact ⟨rfl, _, ⟨d1, ⟨((((Moved.refl _ w).drewN 1).setCell (.inl (.inl rfl)) _).grown HG.out (fun k hk => .inl (.inr (.inl (by injection hk with hk; exact hk.symm))))), d2⟩, ⟨by rw [hab]; exact hW, by rw [hab]; exact hU⟩, hab, rfl, rfl⟩, rfl⟩
theorem remove_calls (w : World) (B : Nat) (s : DiskM) (h : DiskIs w B s) (g : Good s) (nm : ByteArray) (hs : nm.size ≤ maxLen) :
    Calls Try.prog 30 #[.pointer (some ⟨s.d, 0, none⟩), .string nm] w (OpPost w B s (pRemove s.abs nm.data.toList)) := by
  have hat := at_calls w B s h g nm hs
  have HAT := Aside0.mk hat
  have G := Aside0.mk g
  have HS9 := Aside0.mk hs
  clear hat h g
  cases ho : s.goes.out with
  | true =>
    have hp : pRemove s.abs nm.data.toList = (s.abs.goes, 200) := by unfold pRemove; rw [← abs_goes, show s.goes.abs.out = true from ho]; rfl
    have hP : atP s nm.data.toList = .pointer none := by unfold atP; rw [ho]; rfl
    have hE : atE s nm.data.toList = 200 := by unfold atE; rw [ho]; rfl
    have HP := Aside0.mk hp
    have HPP := Aside0.mk hP
    have HE := Aside0.mk hE
    clear ho hp hP hE
    go_enter Try.func30, Try.ntmps30
    go_wp2_with (go_at_call 22; refine HAT.out.mono ?_; rintro e w1 ⟨he, hD, hS⟩; rw [HPP.out, HE.out] at he; subst he; have HD := Aside0.mk hD; have HS := Aside0.mk hS; clear hD hS)
    go_ret
    rw [HP.out]
    exact ⟨rfl, _, OpDone.goes HD.out HS.out G.out rfl⟩
  | false =>
    cases hg : getF nm.data.toList s.L with
    | none =>
      have hp : pRemove s.abs nm.data.toList = (s.abs.goes, 5) := by unfold pRemove; rw [← abs_goes, show s.goes.abs.out = false from ho, getP_none hg]; rfl
      have hP : atP s nm.data.toList = .pointer none := by unfold atP; rw [ho, hg]; rfl
      have hE : atE s nm.data.toList = 5 := by unfold atE; rw [ho, hg]; rfl
      have HP := Aside0.mk hp
      have HPP := Aside0.mk hP
      have HE := Aside0.mk hE
      clear ho hp hP hE hg
      go_enter Try.func30, Try.ntmps30
      go_wp2_with (go_at_call 22; refine HAT.out.mono ?_; rintro e w1 ⟨he, hD, hS⟩; rw [HPP.out, HE.out] at he; subst he; have HD := Aside0.mk hD; have HS := Aside0.mk hS; clear hD hS)
      go_ret
      rw [HP.out]
      exact ⟨rfl, _, OpDone.goes HD.out HS.out G.out rfl⟩
    | some f =>
      have hP : atP s nm.data.toList = .pointer (some ⟨f.p, 0, none⟩) := by unfold atP; rw [ho, hg]; rfl
      have hE : atE s nm.data.toList = 0 := by unfold atE; rw [ho, hg]; rfl
      have hp : pRemove s.abs nm.data.toList = ({ s.abs.goes with F := delP nm.data.toList s.abs.F }, 0) := by
        unfold pRemove
        rw [← abs_goes, show s.goes.abs.out = false from ho, getP_at hg]; rfl
      have HP := Aside0.mk hp
      have HPP := Aside0.mk hP
      have HE := Aside0.mk hE
      clear ho hp hP hE hg
      go_enter Try.func30, Try.ntmps30
      go_wp2_with (first
        | (go_at_call 22; refine HAT.out.mono ?_; rintro e w1 ⟨he, hD, hS⟩; rw [HPP.out, HE.out] at he; subst he; have HD := Aside0.mk hD; have HS := Aside0.mk hS; clear hD hS)
        | (go_at_call 25; refine (drop_calls _ B s.goes HD.out G.out.goes nm HS9.out).mono ?_; rintro e w2 ⟨rfl, s2, hdd⟩; have HDD := Aside0.mk hdd; clear hdd))
      go_ret
      rw [HP.out]
      exact ⟨rfl, s2, HDD.out.done.disk, HS.out.trans HDD.out.done.step, HDD.out.done.good, HDD.out.done.abs, HDD.out.done.d, HDD.out.done.m⟩
end Go.Proofs.Ytlbeehefandfhaa.Pr
