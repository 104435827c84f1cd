/- disk.Append to a file that is there: a contract of its call. -/
import Derived.Test.YtlbeehefandfhaaProg
import Derived.Below
import Derived.Deep.Draws
import Derived.Deep.AppendLies
import Derived.Maps.AppendAt
import Derived.OwnWalk
import Derived.Laws.BytesArg
import Derived.Laws.MakeOwn
import Derived.Laws.OwnMore
import Derived.Deep.OwnRows
import Derived.Tactics
import Derived.Lib.ConvBytes
import Derived.Laws.Slices
import Derived.WalkKit
import Derived.KernelRfl
import Derived.RowKit3
import Derived.Deep.LoopGhost
import Derived.Deep.QuietTactic
import Derived.BigQuiet
import Derived.WideLaws
import Derived.Deep.DeepCutAuto
import Derived.Deep.CutBlock
import Derived.Deep.RegionHeld3
import Derived.Laws.Rows
import Derived.Lib.AppendStr
import Derived.ArgAppend
import Derived.Laws.IdiomCopy
import Derived.OrdersHeld
import Derived.Laws.BitsLemmas
import Derived.RowKit
import Derived.Test.YtlbeehefandfhaaWWords
import Derived.Test.YtlbeehefandfhaaWLast
import Derived.Test.YtlbeehefandfhaaWTab
import Derived.Test.YtlbeehefandfhaaWFour
import Derived.Test.YtlbeehefandfhaaWQPut
import Derived.Test.YtlbeehefandfhaaWApart
import Derived.Test.YtlbeehefandfhaaWArr
import Derived.Test.YtlbeehefandfhaaWZeros
import Derived.Test.YtlbeehefandfhaaWFoot
import Derived.Test.YtlbeehefandfhaaWKept
import Derived.Test.YtlbeehefandfhaaWShare
import Derived.Test.YtlbeehefandfhaaWN
import Derived.Test.YtlbeehefandfhaaWFootNe
import Derived.Test.YtlbeehefandfhaaWAt
import Derived.Test.YtlbeehefandfhaaWEqStruct
import Derived.Test.YtlbeehefandfhaaWRepsOne
import Derived.Test.YtlbeehefandfhaaWInv
import Derived.Test.YtlbeehefandfhaaWInvWords
import Derived.Test.YtlbeehefandfhaaWGuard
import Derived.Test.YtlbeehefandfhaaWNEv
import Derived.Test.YtlbeehefandfhaaWMore
import Derived.Test.YtlbeehefandfhaaDiskH
namespace Go.Proofs.Ytlbeehefandfhaa.Pr
open Go.RowKit Go.Maps Go.Proofs.YtlbeehefandfhaaW.PrintWords Go.Proofs.YtlbeehefandfhaaW.PrintLast Go.Proofs.YtlbeehefandfhaaW.PrintMore
set_option linter.unusedVariables false
set_option linter.unusedSimpArgs false
theorem err_if (b : Bool) : (if b = true then (200 : Int) else 0) = if b then 200 else 0 := rfl
set_option maxHeartbeats 1000000 in
theorem append_some (w : World) (B : Nat) (s : DiskM) (h : DiskIs w B s) (g : Good s) (nm : ByteArray) (hs : nm.size ≤ maxLen) (A : Option Addr) (c : Nat) (l : List Int) (hS : SrcIs w s A c l)
    (ho : s.out = false) (hk : nameOk nm.data.toList = true) (hr : ¬ (l.length : Int) > s.size - s.used) (f : FileM) (hg : getF nm.data.toList s.L = some f) :
    Calls Try.prog 9 #[.pointer (some ⟨s.d, 0, none⟩), .string nm, .slice A l.length c] w (OpPost w B s (pAppend s.abs nm.data.toList l)) := by
  have k4 := h.c4
  have hin := fun W => isName_calls W nm (by unfold maxLen at hs; exact hs)
  have HIN := Aside0.mk hin
  have H := Aside0.mk h
  have G := Aside0.mk g
  have HSRC := Aside0.mk hS
  have hl := hS.len
  have u0 := g.u0
  have u1 := g.u1
  have s1 := g.s1
  have hu := Aside0.mk g.used
  obtain ⟨L1, L2, hL, hfn, hL1⟩ := getF_some hg
  have HP := Aside0.mk ((pAppend_some (s := s.abs) (n := nm.data.toList) (l := l) ho hk (by rw [← g.used]; exact hr) (getP_at hg)).trans (by rw [abs_at hL hfn hL1]))
  have HK := Aside0.mk hk
  have HL := Aside0.mk hL
  have HM := Aside0.mk (show f ∈ s.goes.L from List.mem_of_find?_eq_some hg)
  have HGF := Aside0.mk hg
  rw [ho] at k4
  have hd : ¬ s.size - s.used < (l.length : Int) := hr
  have b0 := (bs_le g (List.mem_of_find?_eq_some hg)).1
  have HF1 := Aside0.mk (bs_le g (List.mem_of_find?_eq_some hg)).2
  have hle : (l.length : Int) ≤ s.size - s.used := by omega
  clear hin h g hS ho hk hr hg hL hL1 hfn
  go_enter Try.func9, Try.ntmps9
  go_wp2_with (first
    | (go_at_call 20; refine (goes_calls w B s H.out G.out).mono ?_; rintro e w1 ⟨rfl, hD, hS⟩; have q0 : w1.cell? ⟨s.d, 0, none⟩ = some (.map (some s.m)) := hD.c0; have q1 : w1.cell? ⟨s.d, 1, none⟩ = some (.int .i64 s.size) := hD.c1; have q2 : w1.cell? ⟨s.d, 2, none⟩ = some (.int .i64 s.used) := hD.c2; have HD := Aside0.mk hD; have HS := Aside0.mk hS; clear hD hS
       have hF := HD.out.file f HM.out
       obtain ⟨Af, cf, hv, hcf, hcm⟩ := hF.row.slice
       have HV := Aside0.mk hv
       have f0 := hF.c0
       rw [hv] at f0
       have hlook : ∀ n, (Instr.lookup 56 (.map (some s.m)) (.string nm) false).run Try.prog (w1.drewN n) = .ok (.pointer (some ⟨f.p, 0, none⟩)) (w1.drewN n) := fun n => by
         have := look_at (HD.out.drewN n) nm hs
         rw [show getF nm.data.toList s.goes.L = some f from HGF.out] at this
         exact this
       have HSR1 := Aside0.mk (HSRC.out.step HS.out)
       clear hF hv)
    | (go_at_call 21; refine (HIN.out _).mono ?_; rintro e w2 ⟨he, rfl⟩; rw [HK.out] at he; subst he))
  go_quiet (fail)
  go_wp2_with (
     at_builtin; refine wpList_append_d rfl _ _ rfl B f.v f.bs l (by rw [HV.out]; rfl) ((HD.out.drewN _).file f HM.out).row (.slice A l.length c) rfl (src_of_C (Kd.C_drewN HSR1.out.reads _) HSR1.out.cap) (by omega) (HD.out.drewN _).le ?_; intro v2 w2 hown hgr hat; obtain ⟨A2, c2, hv2, hc2, -⟩ := hown.slice; rw [List.length_append] at hv2 hc2; subst hv2; have HO := Aside0.mk hown; have HG := Aside0.mk hgr; have HAT := Aside0.mk hat
     have hFr : ∀ k, k < w1.heap.size → f.v.ownBlock ≠ some k → w2.heap[k]? = w1.heap[k]? := fun k hk hn => hgr.block k hk (fun e => hn e.symm)
     have hp1 : w2.heap[f.p]? = w1.heap[f.p]? := hFr _ (HD.out.foot (.inr (.inr ⟨f, HM.out, .inl rfl⟩))).2 (fun e => HD.out.fr HM.out HM.out e rfl)
     have hd1 : w2.heap[s.d]? = w1.heap[s.d]? := hFr _ (HD.out.foot (.inl rfl)).2 (fun e => HD.out.dr HM.out e rfl)
     have z0 : w2.cell? ⟨f.p, 0, none⟩ = some f.v := (World.cell?_of_block hp1).trans (HD.out.file f HM.out).c0
     have z1 : w2.frozen? ⟨f.p, 0, none⟩ = false := (World.frozen?_of_block hp1).trans ((HD.out.file f HM.out).fz 0)
     have z2 : w2.cell? ⟨s.d, 2, none⟩ = some (.int .i64 s.used) := (World.cell?_of_block hd1).trans HD.out.c2
     have z3 : w2.frozen? ⟨s.d, 2, none⟩ = false := (World.frozen?_of_block hd1).trans (HD.out.fz 2)
     have hne : ¬ f.p = s.d := HD.out.df HM.out
     have hne' : ¬ s.d = f.p := fun e => HD.out.df HM.out e.symm
     have HP1 := Aside0.mk hp1; have HD1 := Aside0.mk hd1
     clear hown hgr hat hFr hp1 hd1)
  all_goals
    go_ret
    rw [HP.out]
    have hgo : s.abs.goes.out = s.goes.out := rfl
    refine ⟨by simp [hgo, *], _, OpDone.upd (f' := { f with v := .slice A2 (f.bs.length + l.length) c2, bs := f.bs ++ l }) HS.out rfl rfl HD.out G.out.goes HL.out rfl rfl rfl (by show f.fast ≤ (f.bs ++ l).length; rw [List.length_append]; have := HF1.out; omega) (by show s.used - (f.bs.length : Int) + ((f.bs ++ l).length : Int) ≤ s.size; rw [List.length_append]; omega) ?_ ⟨(HD.out.file f HM.out).pB, ?_, ?_⟩ ?_ (fun F hF => ?_) ?_⟩
    · have hh := HD1.out.trans HD.out.head
      have hh2 : (w2.setCell ⟨f.p, 0, none⟩ (.slice A2 (f.bs.length + l.length) c2)).heap[s.d]? = some (.cells (cellsD s.goes) 58 (0, 0)) := (Below.heap_setCell _ ⟨f.p, 0, none⟩ _ _ hne').trans hh
      refine (blk_set hh2 2 _).trans ?_
      have he : s.used + (l.length : Int) = s.used - (f.bs.length : Int) + ((f.bs ++ l).length : Int) := by rw [List.length_append]; omega
      rw [he]
      rfl
    · rw [Below.heap_setCell _ _ _ _ hne, blk_set (HP1.out.trans (HD.out.file f HM.out).head) 0 _]
      rfl
    · refine HO.out.move fun k hk => ?_
      have h1 : k ≠ f.p ∧ k ≠ s.d := by
        rcases HAT.out with h | h
        · rw [h] at hk
          exact ⟨HD.out.fr HM.out HM.out hk, HD.out.dr HM.out hk⟩
        · rw [h] at hk
          have h2 := (HD.out.foot (.inr (.inr ⟨f, HM.out, .inl rfl⟩))).2
          have h3 := (HD.out.foot (.inl rfl)).2
          have h4 : w1.heap.size = k := by injection hk
          refine ⟨fun e => by omega, fun e => ?_⟩
          have h5 : k = s.goes.d := e
          omega
      rw [Below.heap_setCell _ _ _ _ h1.2, Below.heap_setCell _ _ _ _ h1.1]
    · intro k hk
      rcases HAT.out with h | h
      · exact .inl (by rw [← h]; exact hk)
      · refine .inr ?_
        have h4 : w1.heap.size = k := by have := h.symm.trans hk; injection this
        omega
    · exact ((((Moved.refl F w1).drewN _).grown HG.out (fun k hk => .inl (hF k (.inr (.inr hk))))).setCell (.inl (hF _ (.inr (.inl rfl)))) _).setCell (.inl (hF _ (.inl rfl))) _
    · show (⟨(L1 ++ _ :: L2).map absF, _, _, _⟩ : PD) = _
      rw [List.map_append, List.map_cons]
      rfl
end Go.Proofs.Ytlbeehefandfhaa.Pr
