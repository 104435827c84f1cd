/- disk.Rename: a contract of its call. -/
import Derived.Test.YtlbeehefandfhaaProg
import Derived.Below
import Derived.Deep.Draws
import Derived.Deep.AppendLies
import Derived.Maps.AppendAt
import Derived.OwnWalk
import Derived.Laws.BytesArg
import Derived.Laws.MakeOwn
import Derived.Laws.OwnMore
import Derived.Deep.OwnRows
import Derived.Tactics
import Derived.Lib.ConvBytes
import Derived.Laws.Slices
import Derived.WalkKit
import Derived.KernelRfl
import Derived.RowKit3
import Derived.Deep.LoopGhost
import Derived.Deep.QuietTactic
import Derived.BigQuiet
import Derived.WideLaws
import Derived.Deep.DeepCutAuto
import Derived.Deep.CutBlock
import Derived.Deep.RegionHeld3
import Derived.Laws.Rows
import Derived.Lib.AppendStr
import Derived.ArgAppend
import Derived.Laws.IdiomCopy
import Derived.OrdersHeld
import Derived.Laws.BitsLemmas
import Derived.RowKit
import Derived.Test.YtlbeehefandfhaaWWords
import Derived.Test.YtlbeehefandfhaaWLast
import Derived.Test.YtlbeehefandfhaaWTab
import Derived.Test.YtlbeehefandfhaaWFour
import Derived.Test.YtlbeehefandfhaaWQPut
import Derived.Test.YtlbeehefandfhaaWApart
import Derived.Test.YtlbeehefandfhaaWArr
import Derived.Test.YtlbeehefandfhaaWZeros
import Derived.Test.YtlbeehefandfhaaWFoot
import Derived.Test.YtlbeehefandfhaaWKept
import Derived.Test.YtlbeehefandfhaaWShare
import Derived.Test.YtlbeehefandfhaaWN
import Derived.Test.YtlbeehefandfhaaWFootNe
import Derived.Test.YtlbeehefandfhaaWAt
import Derived.Test.YtlbeehefandfhaaWEqStruct
import Derived.Test.YtlbeehefandfhaaWRepsOne
import Derived.Test.YtlbeehefandfhaaWInv
import Derived.Test.YtlbeehefandfhaaWInvWords
import Derived.Test.YtlbeehefandfhaaWGuard
import Derived.Test.YtlbeehefandfhaaWNEv
import Derived.Test.YtlbeehefandfhaaWMore
import Derived.Test.YtlbeehefandfhaaDiskS
namespace Go.Proofs.Ytlbeehefandfhaa.Pr
open Go.RowKit Go.Maps Go.Sort Go.Proofs.YtlbeehefandfhaaW.PrintWords Go.Proofs.YtlbeehefandfhaaW.PrintLast Go.Proofs.YtlbeehefandfhaaW.PrintMore
set_option linter.unusedVariables false
set_option linter.unusedSimpArgs false
theorem get_data (s : ByteArray) (i : Nat) (hi : i < s.data.toList.length) : s.get! i = s.data.toList[i] := by
  cases s with
  | mk d =>
    show d[i]! = _
    rw [getElem!_pos d i (by simpa using hi)]
    simp
theorem toList_loopD (s : ByteArray) : ∀ (n i : Nat) (r : List UInt8), s.size - i = n → ByteArray.toList.loop s i r = r.reverse ++ s.data.toList.drop i := by
  intro n
  induction n with
  | zero =>
    intro i r h
    unfold ByteArray.toList.loop
    have hl : s.data.toList.length = s.size := by rw [Array.length_toList]; rfl
    rw [if_neg (by omega), List.drop_eq_nil_of_le (by omega), List.append_nil]
  | succ n ih =>
    intro i r h
    have hl : s.data.toList.length = s.size := by rw [Array.length_toList]; rfl
    have hi : i < s.size := by omega
    have hi2 : i < s.data.toList.length := by omega
    unfold ByteArray.toList.loop
    rw [if_pos hi, ih _ _ (by omega), get_data s i hi2, List.drop_eq_getElem_cons hi2, List.reverse_cons, List.append_assoc]
    rfl
theorem toList_data (s : ByteArray) : s.toList = s.data.toList := by
  unfold ByteArray.toList
  rw [toList_loopD s s.size 0 [] (by omega)]
  simp
/-- A file that is there has another name. -/
theorem rename_done {w1 w2 w3 w4 : World} {B : Nat} {s s2 : DiskM} {a b : List UInt8} {f : FileM} (hS : StepD w1 s w2 s2) (hDD : DropDone w1 B s b w2 s2) (g : Good s) (hf : getF a s.L = some f) (hok : nameOk b = true) (hab : a ≠ b)
    (hm3 : w3.ownsMap Try.prog 9 ptrE s.m s2.L.length (.map ((delF a s2.L).map entE))) (hg3 : w2.grownBy w3 (some s.m))
    (hm4 : w4.ownsMap Try.prog 9 ptrE s.m ((delF a s2.L).length + 1) ((DataW.map ((delF a s2.L).map entE)).put (.string b) (.held f.p))) (hg4 : w3.grownBy w4 (some s.m)) :
    OpDone w1 B s { s.abs with F := insP { absF f with name := b } (delP a (delP b s.abs.F)) } w4 { s2 with L := insF { f with name := b } (delF a s2.L) } := by
  obtain ⟨X0, Y0, hL0, hfn, hX0⟩ := getF_some hf
  have hfs : f ∈ s.L := List.mem_of_find?_eq_some hf
  have hf2 : f ∈ s2.L := by
    rw [hDD.L]
    exact List.mem_filter.2 ⟨hfs, by rw [hfn]; simp [hab]⟩
  obtain ⟨X, Y, hL⟩ := List.append_of_mem hf2
  have hdel := delF_at hDD.done.good hL hfn
  have hm2 : s2.m = s.m := hDD.done.m
  have hnb : ∀ x ∈ delF a s2.L, x.name ≠ b := fun x hx => by
    have h1 := (List.mem_filter.1 hx).1
    rw [hDD.L] at h1
    have h2 := (List.mem_filter.1 h1).2
    simpa using h2
  have hput : (DataW.map ((delF a s2.L).map entE)).put (.string b) (.held f.p) = .map ((insF { f with name := b } (delF a s2.L)).map entE) := by
    have := put_ent { f with name := b } (delF a s2.L)
    rw [show ({ f with name := b } : FileM).name = b from rfl, delF_none hnb] at this
    exact this
  have hpm := insF_perm { f with name := b } (delF a s2.L)
  have hap : (insF { f with name := b } (delF a s2.L)).Pairwise ApartF := by
    refine (hpm.pairwise_iff (fun h => ApartF.symm h)).2 (List.pairwise_cons.2 ⟨fun x hx => ?_, hDD.done.disk.apart.sublist List.filter_sublist⟩)
    rw [hdel] at hx
    have h0 := hDD.done.disk.apart
    rw [hL] at h0
    obtain ⟨_, p2, p3⟩ := List.pairwise_append.1 h0
    obtain ⟨p4, _⟩ := List.pairwise_cons.1 p2
    rcases List.mem_append.1 hx with hx | hx
    · exact (p3 x hx f (by simp)).symm
    · exact p4 x hx
  have hd2 : s2.d ≠ s.m := by rw [← hm2]; exact hDD.done.disk.dm
  have hdlt := (hDD.done.disk.foot (.inl rfl)).2
  have hmv : ∀ k, k < w2.heap.size → k ≠ s.m → w4.heap[k]? = w2.heap[k]? := fun k hk hn =>
    (hg4.block k (Nat.lt_of_lt_of_le hk hg3.size) (fun e => hn (by injection e))).trans (hg3.block k hk (fun e => hn (by injection e)))
  have hA : ({ s2 with L := insF { f with name := b } (delF a s2.L) } : DiskM).abs = { s.abs with F := insP { absF f with name := b } (delP a (delP b s.abs.F)) } := by
    have h1 := hDD.done.abs
    have h2 : (delF a s2.L).map absF = delP a (delP b s.abs.F) := by
      rw [abs_delF]
      have : s2.L.map absF = s2.abs.F := rfl
      rw [this, h1]
    show (⟨(insF _ _).map absF, _, _, _⟩ : PD) = _
    rw [abs_insF, h2]
    have e1 : s2.size = s.abs.size := congrArg PD.size h1
    have e2 : s2.calls = s.abs.calls := congrArg PD.calls h1
    have e3 : s2.out = s.abs.out := congrArg PD.out h1
    show (⟨_, s2.size, s2.calls, s2.out⟩ : PD) = _
    rw [e1, e2, e3]
    rfl
  obtain ⟨d1, d2⟩ := hDD.done.disk.remap (w' := w4) (s' := { s2 with L := insF { f with name := b } (delF a s2.L) }) rfl rfl ((hmv _ hdlt hd2).trans (hDD.done.disk.head.trans rfl))
    (by rw [hput] at hm4; rw [hm2]; exact owns_tight hm4) hap
    (fun x hx => by
      rcases List.mem_cons.1 (hpm.mem_iff.1 hx) with rfl | hx
      · exact .inl ⟨f, hf2, rfl, rfl, rfl, rfl⟩
      · exact .inl ⟨x, (List.mem_filter.1 hx).1, rfl, rfl, rfl, rfl⟩)
    (fun k hk h1 h2 => hmv k hk (by rw [← hm2]; exact h2))
  have hF : s2.abs.F = X.map absF ++ absF f :: Y.map absF := by show s2.L.map absF = _; rw [hL]; simp
  have htd := total_del_at a (X.map absF) (Y.map absF) (absF f) (by rw [← hF]; exact hDD.done.good.wf.sorted) hfn
  rw [← hF] at htd
  have hFd : delP b s.abs.F = s2.abs.F := by rw [hDD.done.abs]
  have hW2 : WF ({ s.abs with F := delP a (delP b s.abs.F) } : PD) := by
    have h1 := (hDD.done.good.wf).del a
    rw [hDD.done.abs] at h1
    exact h1
  have hW := hW2.ins { absF f with name := b } (fun x hx => by
      have h1 : delP a (delP b s.abs.F) = (delF a s2.L).map absF := by rw [abs_delF, hFd]; rfl
      rw [show ({ s.abs with F := delP a (delP b s.abs.F) } : PD).F = _ from h1] at hx
      obtain ⟨y, hy, rfl⟩ := List.mem_map.1 hx
      exact hnb y hy) hok (hDD.done.good.wf.fast (absF f) (by rw [hF]; simp)) (by
      show total (delP a (delP b s.abs.F)) + (f.bs.length : Int) ≤ s.size
      rw [hFd, htd]
      have h2 := hDD.done.good.wf.room
      have e1 : s2.size = s.size := congrArg PD.size hDD.done.abs
      have h3 : total s2.abs.F ≤ s.size := by rw [← e1]; exact h2
      show total s2.abs.F - (f.bs.length : Int) + _ ≤ _
      omega)
  refine ⟨d1, hDD.done.step.trans ⟨?_, d2⟩, ⟨by rw [hA]; exact hW, ?_⟩, hA, hDD.done.d, hDD.done.m⟩
  · exact ((Moved.refl _ w2).grown hg3 (fun k hk => .inl (.inr (.inl (by injection hk with hk; rw [hm2]; exact hk.symm))))).grown hg4 (fun k hk => .inl (.inr (.inl (by injection hk with hk; rw [hm2]; exact hk.symm))))
  · rw [hA]
    show s2.used = total (insP _ (delP a (delP b s.abs.F)))
    rw [total_perm (insP_perm _ _), hDD.done.good.used, hFd]
    simp only [total]
    rw [htd]
    show _ = (f.bs.length : Int) + (_ - (f.bs.length : Int))
    omega
theorem pRename_out {s : PD} {a b : List UInt8} (h : s.goes.out = true) : pRename s a b = (s.goes, 200) := by unfold pRename; rw [h]; rfl
theorem pRename_name {s : PD} {a b : List UInt8} (h : s.goes.out = false) (hn : nameOk b = false) : pRename s a b = (s.goes, 1) := by unfold pRename; rw [h, hn]; rfl
theorem pRename_none {s : PD} {a b : List UInt8} (h : s.goes.out = false) (hn : nameOk b = true) (hg : getP a s.F = none) : pRename s a b = (s.goes, 5) := by unfold pRename; rw [h, hn, hg]; rfl
theorem pRename_same {s : PD} {a b : List UInt8} {f : PF} (h : s.goes.out = false) (hn : nameOk b = true) (hg : getP a s.F = some f) (hab : a = b) : pRename s a b = (s.goes, 0) := by unfold pRename; rw [h, hn, hg]; simp only [Bool.not_true, Bool.false_eq_true, if_false]; rw [if_pos hab]
theorem pRename_some {s : PD} {a b : List UInt8} {f : PF} (h : s.goes.out = false) (hn : nameOk b = true) (hg : getP a s.F = some f) (hab : ¬ a = b) : pRename s a b = ({ s.goes with F := insP { f with name := b } (delP a (delP b s.F)) }, 0) := by unfold pRename; rw [h, hn, hg]; simp only [Bool.not_true, Bool.false_eq_true, if_false]; rw [if_neg hab]
set_option maxRecDepth 100000 in
set_option maxHeartbeats 1600000 in
theorem rename_calls (w : World) (B : Nat) (s : DiskM) (h : DiskIs w B s) (g : Good s) (na nb : ByteArray) (hs : na.size ≤ maxLen) (hsb : nb.size ≤ maxLen) (hN : s.L.length ≤ 1000000) :
    Calls Try.prog 17 #[.pointer (some ⟨s.d, 0, none⟩), .string na, .string nb] w (OpPost w B s (pRename s.abs na.data.toList nb.data.toList)) := by
  have hl := look_at h na hs
  have k0 := h.c0
  have hin := fun W => isName_calls W nb (by unfold maxLen at hsb; exact hsb)
  have HIN := Aside0.mk hin
  have H := Aside0.mk h
  have G := Aside0.mk g
  have HSA := Aside0.mk hs
  have HSB := Aside0.mk hsb
  have HNN := Aside0.mk hN
  clear hin h g hs hsb hN
  cases ho : s.goes.out with
  | true =>
    have HP := Aside0.mk (pRename_out (s := s.abs) (a := na.data.toList) (b := nb.data.toList) (by rw [← abs_goes]; exact ho))
    have HO := Aside0.mk ho
    clear ho
    cases hg : getF na.data.toList s.L with
    | none =>
      rw [hg] at hl
      simp only [ptrOf] at hl
      clear hg
      go_enter Try.func17, Try.ntmps17
      go_wp2_with (go_at_call 20; refine (goes_calls w B s H.out G.out).mono ?_; rintro e w1 ⟨he, hD, hS⟩; rw [HO.out] at he; subst he; have HD := Aside0.mk hD; have HS := Aside0.mk hS; clear hD hS)
      go_ret
      rw [HP.out]
      exact ⟨rfl, _, OpDone.goes HD.out HS.out G.out rfl⟩
    | some f =>
      rw [hg] at hl
      simp only [ptrOf] at hl
      clear hg
      go_enter Try.func17, Try.ntmps17
      go_wp2_with (go_at_call 20; refine (goes_calls w B s H.out G.out).mono ?_; rintro e w1 ⟨he, hD, hS⟩; rw [HO.out] at he; subst he; have HD := Aside0.mk hD; have HS := Aside0.mk hS; clear hD hS)
      go_ret
      rw [HP.out]
      exact ⟨rfl, _, OpDone.goes HD.out HS.out G.out rfl⟩
  | false =>
    have HO := Aside0.mk ho
    cases hk : nameOk nb.data.toList with
    | false =>
      have HP := Aside0.mk (pRename_name (s := s.abs) (a := na.data.toList) (b := nb.data.toList) (by rw [← abs_goes]; exact ho) hk)
      have HK := Aside0.mk hk
      clear ho hk
      cases hg : getF na.data.toList s.L with
      | none =>
        rw [hg] at hl
        simp only [ptrOf] at hl
        clear hg
        go_enter Try.func17, Try.ntmps17
        go_wp2_with (first
          | (go_at_call 20; refine (goes_calls w B s H.out G.out).mono ?_; rintro e w1 ⟨he, hD, hS⟩; rw [HO.out] at he; subst he; have HD := Aside0.mk hD; have HS := Aside0.mk hS; clear hD hS)
          | (go_at_call 21; refine (HIN.out _).mono ?_; rintro e w2 ⟨he, rfl⟩; rw [HK.out] at he; subst he))
        go_ret
        rw [HP.out]
        exact ⟨rfl, _, OpDone.goes HD.out HS.out G.out rfl⟩
      | some f =>
        rw [hg] at hl
        simp only [ptrOf] at hl
        clear hg
        go_enter Try.func17, Try.ntmps17
        go_wp2_with (first
          | (go_at_call 20; refine (goes_calls w B s H.out G.out).mono ?_; rintro e w1 ⟨he, hD, hS⟩; rw [HO.out] at he; subst he; have HD := Aside0.mk hD; have HS := Aside0.mk hS; clear hD hS)
          | (go_at_call 21; refine (HIN.out _).mono ?_; rintro e w2 ⟨he, rfl⟩; rw [HK.out] at he; subst he))
        go_ret
        rw [HP.out]
        exact ⟨rfl, _, OpDone.goes HD.out HS.out G.out rfl⟩
    | true =>
      have HK := Aside0.mk hk
      cases hg : getF na.data.toList s.L with
      | none =>
        have HP := Aside0.mk (pRename_none (s := s.abs) (a := na.data.toList) (b := nb.data.toList) (by rw [← abs_goes]; exact ho) hk (getP_none hg))
        rw [hg] at hl
        simp only [ptrOf] at hl
        clear hg ho hk
        go_enter Try.func17, Try.ntmps17
        go_wp2_with (first
          | (go_at_call 20; refine (goes_calls w B s H.out G.out).mono ?_; rintro e w1 ⟨he, hD, hS⟩; rw [HO.out] at he; subst he; have HD := Aside0.mk hD; have HS := Aside0.mk hS; clear hD hS)
          | (go_at_call 21; refine (HIN.out _).mono ?_; rintro e w2 ⟨he, rfl⟩; rw [HK.out] at he; subst he))
        go_ret
        rw [HP.out]
        exact ⟨rfl, _, OpDone.goes HD.out HS.out G.out rfl⟩
      | some f =>
        rw [hg] at hl
        simp only [ptrOf] at hl
        have HGF := Aside0.mk hg
        by_cases hab : na = nb
        · subst hab
          have HP := Aside0.mk (pRename_same (s := s.abs) (a := na.data.toList) (b := na.data.toList) (by rw [← abs_goes]; exact ho) hk (getP_at hg) rfl)
          clear hg ho hk
          go_enter Try.func17, Try.ntmps17
          go_wp2_with (first
            | (go_at_call 20; refine (goes_calls w B s H.out G.out).mono ?_; rintro e w1 ⟨he, hD, hS⟩; rw [HO.out] at he; subst he; have HD := Aside0.mk hD; have HS := Aside0.mk hS; clear hD hS)
            | (go_at_call 21; refine (HIN.out _).mono ?_; rintro e w2 ⟨he, rfl⟩; rw [HK.out] at he; subst he))
          go_ret
          rw [HP.out]
          exact ⟨rfl, _, OpDone.goes HD.out HS.out G.out rfl⟩
        · have hne : na.data.toList ≠ nb.data.toList := fun e => hab (Go.WideShapes.bytes_inj e)
          have HP := Aside0.mk (pRename_some (s := s.abs) (a := na.data.toList) (b := nb.data.toList) (by rw [← abs_goes]; exact ho) hk (getP_at hg) hne)
          have HNE := Aside0.mk hne
          have hbq : (na.toList == nb.toList) = false := beq_eq_false_iff_ne.2 (by rw [toList_data, toList_data]; exact hne)
          clear hg ho hk hne
          go_enter Try.func17, Try.ntmps17
          go_wp2_with (first
            | (go_at_call 20; refine (goes_calls w B s H.out G.out).mono ?_; rintro e w1 ⟨he, hD, hS⟩; rw [HO.out] at he; subst he; have HD := Aside0.mk hD; have HS := Aside0.mk hS; clear hD hS)
            | (go_at_call 21; refine (HIN.out _).mono ?_; rintro e w2 ⟨he, rfl⟩; rw [HK.out] at he; subst he)
            | (go_at_call 25; refine (drop_calls _ B s.goes HD.out G.out.goes nb HSB.out).mono ?_; rintro e w2 ⟨rfl, s2, hdd⟩; have HDD := Aside0.mk hdd
               have q0 : w2.cell? ⟨s.d, 0, none⟩ = some (.map (some s.m)) := by have := hdd.done.disk.c0; rw [hdd.done.d, hdd.done.m] at this; exact this
               clear hdd)
            | (at_delete; refine wpList_del_d rfl _ _ rfl s.m s2.L.length s2.L rfl (by have := HDD.out.done.disk.map; rw [HDD.out.done.m] at this; exact this) na HSA.out rfl ?_; intro w3 hown3 hgr3; have HO3 := Aside0.mk hown3; have HG3 := Aside0.mk hgr3
               have q3 : w3.cell? ⟨s.d, 0, none⟩ = some (.map (some s.m)) := (World.cell?_of_block (a := ⟨s.d, 0, none⟩) (hgr3.block s.d (by have h8 := (HDD.out.done.disk.foot (.inl rfl)).2; rw [HDD.out.done.d] at h8; exact h8) (fun e => by have h9 := HDD.out.done.disk.dm; rw [HDD.out.done.d, HDD.out.done.m] at h9; exact h9 (by injection e)))).trans q0
               clear hown3 hgr3)
            | (at_mapUpdate; refine wpList_put_d rfl _ _ _ rfl s.m (delF na.data.toList s2.L).length (delF na.data.toList s2.L) rfl (owns_tight HO3.out) (by
                 have h1 : (delF na.data.toList s2.L).length ≤ s2.L.length := List.length_filter_le _ _
                 have h2 : s2.L.length ≤ s.L.length := by rw [HDD.out.L]; exact List.length_filter_le _ _
                 have h3 := HNN.out
                 omega) nb HSB.out f.p rfl rfl ?_; intro w4 hown4 hgr4; have HO4 := Aside0.mk hown4; have HG4 := Aside0.mk hgr4; clear hown4 hgr4))
          go_ret
          rw [HP.out]
          have hR := rename_done (w1 := w1) HDD.out.done.step HDD.out G.out.goes HGF.out HK.out HNE.out HO3.out HG3.out HO4.out HG4.out
          exact ⟨rfl, _, hR.disk, HS.out.trans hR.step, hR.good, hR.abs, hR.d, hR.m⟩
end Go.Proofs.Ytlbeehefandfhaa.Pr
