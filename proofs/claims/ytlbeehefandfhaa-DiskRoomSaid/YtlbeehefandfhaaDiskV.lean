/- disk.Truncate: a contract of its call. -/
import Derived.Test.YtlbeehefandfhaaProg
import Derived.Below
import Derived.Deep.Draws
import Derived.Deep.AppendLies
import Derived.Maps.AppendAt
import Derived.OwnWalk
import Derived.Laws.BytesArg
import Derived.Laws.MakeOwn
import Derived.Laws.OwnMore
import Derived.Deep.OwnRows
import Derived.Tactics
import Derived.Lib.ConvBytes
import Derived.Laws.Slices
import Derived.WalkKit
import Derived.KernelRfl
import Derived.RowKit3
import Derived.Deep.LoopGhost
import Derived.Deep.QuietTactic
import Derived.BigQuiet
import Derived.WideLaws
import Derived.Deep.DeepCutAuto
import Derived.Deep.CutBlock
import Derived.Deep.RegionHeld3
import Derived.Laws.Rows
import Derived.Lib.AppendStr
import Derived.ArgAppend
import Derived.Laws.IdiomCopy
import Derived.OrdersHeld
import Derived.Laws.BitsLemmas
import Derived.RowKit
import Derived.Test.YtlbeehefandfhaaWWords
import Derived.Test.YtlbeehefandfhaaWLast
import Derived.Test.YtlbeehefandfhaaWTab
import Derived.Test.YtlbeehefandfhaaWFour
import Derived.Test.YtlbeehefandfhaaWQPut
import Derived.Test.YtlbeehefandfhaaWApart
import Derived.Test.YtlbeehefandfhaaWArr
import Derived.Test.YtlbeehefandfhaaWZeros
import Derived.Test.YtlbeehefandfhaaWFoot
import Derived.Test.YtlbeehefandfhaaWKept
import Derived.Test.YtlbeehefandfhaaWShare
import Derived.Test.YtlbeehefandfhaaWN
import Derived.Test.YtlbeehefandfhaaWFootNe
import Derived.Test.YtlbeehefandfhaaWAt
import Derived.Test.YtlbeehefandfhaaWEqStruct
import Derived.Test.YtlbeehefandfhaaWRepsOne
import Derived.Test.YtlbeehefandfhaaWInv
import Derived.Test.YtlbeehefandfhaaWInvWords
import Derived.Test.YtlbeehefandfhaaWGuard
import Derived.Test.YtlbeehefandfhaaWNEv
import Derived.Test.YtlbeehefandfhaaWMore
import Derived.Test.YtlbeehefandfhaaDiskS
import Derived.BigRegion
namespace Go.Proofs.Ytlbeehefandfhaa.Pr
open Go.RowKit Go.Maps Go.Sort Go.Proofs.YtlbeehefandfhaaW.PrintWords Go.Proofs.YtlbeehefandfhaaW.PrintLast Go.Proofs.YtlbeehefandfhaaW.PrintMore
set_option linter.unusedVariables false
set_option linter.unusedSimpArgs false
theorem pTruncate_out {s : PD} {n : List UInt8} {k : Int} (h : s.goes.out = true) : pTruncate s n k = (s.goes, 200) := by unfold pTruncate; rw [h]; rfl
theorem pTruncate_none {s : PD} {n : List UInt8} {k : Int} (h : s.goes.out = false) (hg : getP n s.F = none) : pTruncate s n k = (s.goes, 5) := by unfold pTruncate; rw [h, hg]; rfl
theorem pTruncate_bad {s : PD} {n : List UInt8} {k : Int} {f : PF} (h : s.goes.out = false) (hg : getP n s.F = some f) (hk : k < 0 ∨ k > f.bs.length) : pTruncate s n k = (s.goes, 1) := by unfold pTruncate; rw [h, hg]; simp only [Bool.false_eq_true, if_false]; rw [if_pos hk]
theorem pTruncate_some {s : PD} {n : List UInt8} {k : Int} {f : PF} (h : s.goes.out = false) (hg : getP n s.F = some f) (hk : ¬ (k < 0 ∨ k > f.bs.length)) : pTruncate s n k = ({ s.goes with F := updP n (fun f => { f with bs := f.bs.take k.toNat, fast := min f.fast k.toNat }) s.F }, 0) := by unfold pTruncate; rw [h, hg]; simp only [Bool.false_eq_true, if_false]; rw [if_neg hk]
set_option maxRecDepth 100000 in
set_option maxHeartbeats 1600000 in
theorem truncate_calls (w : World) (B : Nat) (s : DiskM) (h : DiskIs w B s) (g : Good s) (nm : ByteArray) (hs : nm.size ≤ maxLen) (k : Int) (hk1 : -9223372036854775808 ≤ k) (hk2 : k ≤ 9223372036854775807) :
    Calls Try.prog 14 #[.pointer (some ⟨s.d, 0, none⟩), .string nm, .int .i64 k] w (OpPost w B s (pTruncate s.abs nm.data.toList k)) := by
  have hat := at_calls w B s h g nm hs
  have HAT := Aside0.mk hat
  have G := Aside0.mk g
  clear hat h g
  cases ho : s.goes.out with
  | true =>
    have HP := Aside0.mk (pTruncate_out (s := s.abs) (n := nm.data.toList) (k := k) (by rw [← abs_goes]; exact ho))
    have hP : atP s nm.data.toList = .pointer none := by unfold atP; rw [ho]; rfl
    have hE : atE s nm.data.toList = 200 := by unfold atE; rw [ho]; rfl
    have HPP := Aside0.mk hP
    have HE := Aside0.mk hE
    clear ho hP hE
    go_enter Try.func14, Try.ntmps14
    go_wp2_with (go_at_call 22; refine HAT.out.mono ?_; rintro e w1 ⟨he, hD, hS⟩; rw [HPP.out, HE.out] at he; subst he; have HD := Aside0.mk hD; have HS := Aside0.mk hS; clear hD hS)
    go_ret
    rw [HP.out]
    exact ⟨rfl, _, OpDone.goes HD.out HS.out G.out rfl⟩
  | false =>
    cases hg : getF nm.data.toList s.L with
    | none =>
      have HP := Aside0.mk (pTruncate_none (s := s.abs) (n := nm.data.toList) (k := k) (by rw [← abs_goes]; exact ho) (getP_none hg))
      have hP : atP s nm.data.toList = .pointer none := by unfold atP; rw [ho, hg]; rfl
      have hE : atE s nm.data.toList = 5 := by unfold atE; rw [ho, hg]; rfl
      have HPP := Aside0.mk hP
      have HE := Aside0.mk hE
      clear ho hP hE hg
      go_enter Try.func14, Try.ntmps14
      go_wp2_with (go_at_call 22; refine HAT.out.mono ?_; rintro e w1 ⟨he, hD, hS⟩; rw [HPP.out, HE.out] at he; subst he; have HD := Aside0.mk hD; have HS := Aside0.mk hS; clear hD hS)
      go_ret
      rw [HP.out]
      exact ⟨rfl, _, OpDone.goes HD.out HS.out G.out rfl⟩
    | some f =>
      have hP : atP s nm.data.toList = .pointer (some ⟨f.p, 0, none⟩) := by unfold atP; rw [ho, hg]; rfl
      have hE : atE s nm.data.toList = 0 := by unfold atE; rw [ho, hg]; rfl
      have HPP := Aside0.mk hP
      have HE := Aside0.mk hE
      have HM := Aside0.mk (show f ∈ s.goes.L from List.mem_of_find?_eq_some hg)
      obtain ⟨b0, b1⟩ := bs_le G.out.goes HM.out
      have b2 := G.out.goes.u1
      have b3 := G.out.goes.s1
      have hb : f.bs.length ≤ 67108864 := by omega
      by_cases hk : k < 0 ∨ k > f.bs.length
      · have HP := Aside0.mk (pTruncate_bad (s := s.abs) (n := nm.data.toList) (k := k) (by rw [← abs_goes]; exact ho) (getP_at hg) hk)
        clear ho hP hE hg b0 b1 b2 b3
        by_cases hn : k < 0
        · clear hk
          go_enter Try.func14, Try.ntmps14
          go_wp2_with (go_at_call 22; refine HAT.out.mono ?_; rintro e w1 ⟨he, hD, hS⟩; rw [HPP.out, HE.out] at he; subst he; have HD := Aside0.mk hD; have HS := Aside0.mk hS; clear hD hS)
          go_ret
          rw [HP.out]
          exact ⟨rfl, _, OpDone.goes HD.out HS.out G.out rfl⟩
        · have hn2 : (f.bs.length : Int) < k := by omega
          clear hk
          go_enter Try.func14, Try.ntmps14
          go_wp2_with (go_at_call 22; refine HAT.out.mono ?_; rintro e w1 ⟨he, hD, hS⟩; rw [HPP.out, HE.out] at he; subst he; have HD := Aside0.mk hD; have HS := Aside0.mk hS; have hF := hD.file f HM.out; obtain ⟨Af, cf, hv, hcf, hcm⟩ := hF.row.slice; have f0 := hF.c0; rw [hv] at f0; clear hD hS hF hv)
          go_ret
          rw [HP.out]
          exact ⟨rfl, _, OpDone.goes HD.out HS.out G.out rfl⟩
      · obtain ⟨m, rfl⟩ : ∃ m : Nat, k = (m : Int) := ⟨k.toNat, by omega⟩
        have hml : m ≤ f.bs.length := by omega
        obtain ⟨L1, L2, hL, hfn, hL1⟩ := getF_some hg
        have HP := Aside0.mk ((pTruncate_some (s := s.abs) (n := nm.data.toList) (k := (m : Int)) (by rw [← abs_goes]; exact ho) (getP_at hg) hk).trans (by rw [abs_at hL hfn hL1]))
        have HL := Aside0.mk hL
        have BB := Aside0.mk (And.intro b0 (And.intro b1 b2))
        have n1 : ¬ (m : Int) < 0 := by omega
        have n2 : ¬ (f.bs.length : Int) < (m : Int) := by omega
        have u1 : (f.bs.length : Int) ≤ s.used := b0
        have u2 : s.used ≤ s.size := b2
        have u3 : s.size ≤ 67108864 := b3
        clear ho hP hE hg hL hfn hL1 hk b0 b2 b3
        go_enter Try.func14, Try.ntmps14
        go_wp2_with (
           go_at_call 22; refine HAT.out.mono ?_; rintro e w1 ⟨he, hD, hS⟩; rw [HPP.out, HE.out] at he; subst he; have HD := Aside0.mk hD; have HS := Aside0.mk hS; have hF := hD.file f HM.out; obtain ⟨Af, cf, hv, hcf, hcm⟩ := hF.row.slice; have f0 := hF.c0; rw [hv] at f0
           have f1 := hF.c1; have g0 := hF.fz 0; have g1 := hF.fz 1
           have q2 : w1.cell? ⟨s.d, 2, none⟩ = some (.int .i64 s.used) := hD.c2
           have q3 : w1.frozen? ⟨s.d, 2, none⟩ = false := hD.fz 2
           have hdf : ¬ s.d = f.p := fun e => hD.df HM.out e.symm
           have hfd : ¬ f.p = s.d := fun e => hD.df HM.out e
           have HV := Aside0.mk hv
           clear hD hS hF hv)
        go_region
        go_wp2_with fail
        obtain ⟨W, hW⟩ : ∃ W : World, W = (w1.setCell ⟨s.d, 2, none⟩ (.int .i64 (s.used - ((f.bs.length : Int) - m)))).drew := ⟨_, rfl⟩
        have hWf : W.heap[f.p]? = w1.heap[f.p]? := by rw [hW]; exact Below.heap_setCell w1 ⟨s.d, 2, none⟩ _ _ hfd
        have y0 : W.cell? ⟨f.p, 0, none⟩ = some (.slice Af f.bs.length cf) := (World.cell?_of_block (a := ⟨f.p, 0, none⟩) hWf).trans f0
        have y1 : W.cell? ⟨f.p, 1, none⟩ = some (.int .i64 (f.fast : Int)) := (World.cell?_of_block (a := ⟨f.p, 1, none⟩) hWf).trans f1
        have y2 : W.frozen? ⟨f.p, 0, none⟩ = false := (World.frozen?_of_block (a := ⟨f.p, 0, none⟩) hWf).trans g0
        have y3 : W.frozen? ⟨f.p, 1, none⟩ = false := (World.frozen?_of_block (a := ⟨f.p, 1, none⟩) hWf).trans g1
        rw [← hW]
        have HW := Aside0.mk hW
        clear hW hWf f0 f1 g0 g1 q2 q3
        go_region
        go_wp2
        go_ret
        rw [HP.out]
        have hD := HD.out
        have hF := hD.file f HM.out
        have hlen : (f.bs.take m).length = m := by rw [List.length_take]; omega
        have hWd : W.heap[s.d]? = some (.cells #[.map (some s.m), .int .i64 s.size, .int .i64 (s.used - ((f.bs.length : Int) - m)), .int .i64 s.goes.calls, .bool s.goes.out] 58 (0, 0)) := by
          rw [HW.out]
          exact (blk_set hD.head 2 _).trans rfl
        have hWo : ∀ k, k ≠ s.d → W.heap[k]? = w1.heap[k]? := fun k hk => by rw [HW.out]; exact Below.heap_setCell w1 ⟨s.d, 2, none⟩ _ _ hk
        have hme : (min (f.fast : Int) (m : Int)) = ((min f.fast m : Nat) : Int) := by omega
        rw [hme]
        refine ⟨rfl, _, OpDone.upd (f' := { f with v := .slice Af m cf, bs := f.bs.take m, fast := min f.fast m }) HS.out rfl rfl hD G.out.goes HL.out rfl rfl rfl (by show min f.fast m ≤ (f.bs.take m).length; rw [hlen]; omega) (by show s.used - (f.bs.length : Int) + ((f.bs.take m).length : Int) ≤ s.size; rw [hlen]; omega) ?_ ⟨hF.pB, ?_, ?_⟩ (fun k hk => .inl ?_) (fun F hF' => ?_) ?_⟩
        · show ((W.setCell ⟨f.p, 0, none⟩ (.slice Af m cf)).setCell ⟨f.p, 1, none⟩ _).heap[s.d]? = _
          rw [Below.heap_setCell _ _ _ _ hdf, Below.heap_setCell _ _ _ _ hdf, hWd]
          have he : s.used - ((f.bs.length : Int) - m) = s.used - (f.bs.length : Int) + ((f.bs.take m).length : Int) := by rw [hlen]; omega
          rw [he]
          rfl
        · have h1 := blk_set ((hWo f.p hfd).trans hF.head) 0 (.slice Af m cf)
          exact (blk_set h1 1 _).trans rfl
        · have hr := hF.row
          rw [HV.out] at hr
          refine (hr.cut m cf hml (by omega) (Nat.le_refl _)).move fun k hk => ?_
          have hfk : f.v.ownBlock = some k := by
            rw [HV.out]
            cases Af with
            | none => simp [Value.ownBlock] at hk
            | some a => simpa [Value.ownBlock] using hk
          have hkf : k ≠ f.p := hD.fr HM.out HM.out hfk
          show ((W.setCell ⟨f.p, 0, none⟩ (.slice Af m cf)).setCell ⟨f.p, 1, none⟩ _).heap[k]? = _
          rw [Below.heap_setCell _ _ _ _ hkf, Below.heap_setCell _ _ _ _ hkf]
          exact hWo k (hD.dr HM.out hfk)
        · rw [HV.out]
          cases Af with
          | none => simp [Value.ownBlock] at hk
          | some a => simpa [Value.ownBlock] using hk
        · have hMW : Moved F w1 W := by rw [HW.out]; exact ((Moved.refl F w1).setCell (.inl (hF' _ (.inl rfl))) _).drewN 1
          exact (((hMW.setCell (.inl (hF' _ (.inr (.inl rfl)))) _).setCell (.inl (hF' _ (.inr (.inl rfl)))) _).drewN 1)
        · show (⟨(L1 ++ _ :: L2).map absF, _, _, _⟩ : PD) = _
          rw [List.map_append, List.map_cons]
          rfl
end Go.Proofs.Ytlbeehefandfhaa.Pr
