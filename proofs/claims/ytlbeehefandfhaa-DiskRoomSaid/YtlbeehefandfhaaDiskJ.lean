/- disk.Append to a new file: a contract of its call. -/
import Derived.Test.YtlbeehefandfhaaProg
import Derived.Below
import Derived.Deep.Draws
import Derived.Deep.AppendLies
import Derived.Maps.AppendAt
import Derived.OwnWalk
import Derived.Laws.BytesArg
import Derived.Laws.MakeOwn
import Derived.Laws.OwnMore
import Derived.Deep.OwnRows
import Derived.Tactics
import Derived.Lib.ConvBytes
import Derived.Laws.Slices
import Derived.WalkKit
import Derived.KernelRfl
import Derived.RowKit3
import Derived.Deep.LoopGhost
import Derived.Deep.QuietTactic
import Derived.BigQuiet
import Derived.WideLaws
import Derived.Deep.DeepCutAuto
import Derived.Deep.CutBlock
import Derived.Deep.RegionHeld3
import Derived.Laws.Rows
import Derived.Lib.AppendStr
import Derived.ArgAppend
import Derived.Laws.IdiomCopy
import Derived.OrdersHeld
import Derived.Laws.BitsLemmas
import Derived.RowKit
import Derived.Test.YtlbeehefandfhaaWWords
import Derived.Test.YtlbeehefandfhaaWLast
import Derived.Test.YtlbeehefandfhaaWTab
import Derived.Test.YtlbeehefandfhaaWFour
import Derived.Test.YtlbeehefandfhaaWQPut
import Derived.Test.YtlbeehefandfhaaWApart
import Derived.Test.YtlbeehefandfhaaWArr
import Derived.Test.YtlbeehefandfhaaWZeros
import Derived.Test.YtlbeehefandfhaaWFoot
import Derived.Test.YtlbeehefandfhaaWKept
import Derived.Test.YtlbeehefandfhaaWShare
import Derived.Test.YtlbeehefandfhaaWN
import Derived.Test.YtlbeehefandfhaaWFootNe
import Derived.Test.YtlbeehefandfhaaWAt
import Derived.Test.YtlbeehefandfhaaWEqStruct
import Derived.Test.YtlbeehefandfhaaWRepsOne
import Derived.Test.YtlbeehefandfhaaWInv
import Derived.Test.YtlbeehefandfhaaWInvWords
import Derived.Test.YtlbeehefandfhaaWGuard
import Derived.Test.YtlbeehefandfhaaWNEv
import Derived.Test.YtlbeehefandfhaaWMore
import Derived.Test.YtlbeehefandfhaaDiskI
namespace Go.Proofs.Ytlbeehefandfhaa.Pr
open Go.RowKit Go.Maps Go.Proofs.YtlbeehefandfhaaW.PrintWords Go.Proofs.YtlbeehefandfhaaW.PrintLast Go.Proofs.YtlbeehefandfhaaW.PrintMore
set_option linter.unusedVariables false
set_option linter.unusedSimpArgs false
theorem insF_split (f : FileM) : ∀ L : List FileM, ∃ L1 L2, insF f L = L1 ++ f :: L2 ∧ ∀ q : PF, q.name = f.name → insP q (L.map absF) = L1.map absF ++ q :: L2.map absF
  | [] => ⟨[], [], rfl, fun q _ => rfl⟩
  | g :: r => by
    obtain ⟨L1, L2, h1, h2⟩ := insF_split f r
    by_cases hb : bytesBefore f.name g.name = true
    · refine ⟨[], g :: r, by simp [insF, hb], fun q hq => ?_⟩
      have : bytesBefore q.name (absF g).name = true := by rw [hq]; exact hb
      simp [insP, this]
    · refine ⟨g :: L1, L2, by simp [insF, hb, h1], fun q hq => ?_⟩
      have : ¬ bytesBefore q.name (absF g).name = true := by rw [hq]; exact hb
      simp [insP, this, h2 q hq]
/-- A new file, without bytes. -/
theorem DiskIs.ins {w w' : World} {B : Nat} {s : DiskM} (h : DiskIs w B s) (g : Good s) (n : List UInt8) (hn : ∀ f ∈ s.L, f.name ≠ n) (hok : nameOk n = true) (p : Nat) (hp : w.heap.size ≤ p)
    (hmap : w'.ownsMap Try.prog 9 ptrE s.m (s.L.length + 1) ((DataW.map (s.L.map entE)).put (.string n) (.held p)))
    (hf : w'.heap[p]? = some (.cells #[.slice none 0 0, .int .i64 0] 62 (0, 0)))
    (hM : Moved (fun k => k = s.m) w w') :
    DiskIs w' B { s with L := insF ⟨n, p, .slice none 0 0, [], 0⟩ s.L } ∧ StepD w s w' { s with L := insF ⟨n, p, .slice none 0 0, [], 0⟩ s.L } ∧ Good { s with L := insF ⟨n, p, .slice none 0 0, [], 0⟩ s.L } := by
  have hpm := insF_perm ⟨n, p, .slice none 0 0, [], 0⟩ s.L
  have hB := h.le
  have hF0 : FileIs w' B ⟨n, p, .slice none 0 0, [], 0⟩ := ⟨Nat.le_trans hB hp, hf, DRow.nil _ _⟩
  have hput : (DataW.map (s.L.map entE)).put (.string n) (.held p) = .map ((insF ⟨n, p, .slice none 0 0, [], 0⟩ s.L).map entE) := by
    have := put_ent ⟨n, p, .slice none 0 0, [], 0⟩ s.L
    rw [delF_none hn] at this
    exact this
  have hd := h.dm
  have hmv : ∀ k, k < w.heap.size → k ≠ s.m → w'.heap[k]? = w.heap[k]? := fun k hk hm => hM.block k hk hm
  obtain ⟨h1, h2⟩ := h.remap (w' := w') (s' := { s with L := insF ⟨n, p, .slice none 0 0, [], 0⟩ s.L }) rfl rfl ((hmv _ (h.foot (.inl rfl)).2 hd).trans h.head)
    (by rw [hput] at hmap; rw [show (insF ⟨n, p, .slice none 0 0, [], 0⟩ s.L).length = s.L.length + 1 from hpm.length_eq]; exact hmap)
    ((hpm.pairwise_iff (fun h => ApartF.symm h)).2 (List.pairwise_cons.2 ⟨fun f hf => ⟨fun e => by have := (h.foot (.inr (.inr ⟨f, hf, .inl rfl⟩))).2; have e2 : p = f.p := e; omega, fun k hk => by simp [Value.ownBlock] at hk⟩, h.apart⟩))
    (fun f hf => by
      rcases List.mem_cons.1 (hpm.mem_iff.1 hf) with rfl | hf
      · exact .inr ⟨hF0, hp, fun k hk => by simp [Value.ownBlock] at hk⟩
      · exact .inl ⟨f, hf, rfl, rfl, rfl, rfl⟩)
    (fun k hk _ hm => hmv k hk hm)
  have hA : ({ s with L := insF ⟨n, p, .slice none 0 0, [], 0⟩ s.L } : DiskM).abs = { s.abs with F := insP ⟨n, [], 0⟩ s.abs.F } := by
    obtain ⟨L1, L2, e1, e2⟩ := insF_split ⟨n, p, .slice none 0 0, [], 0⟩ s.L
    unfold DiskM.abs
    rw [show insP ⟨n, [], 0⟩ (s.L.map absF) = _ from e2 ⟨n, [], 0⟩ rfl, e1, List.map_append, List.map_cons]
    rfl
  have hW := g.wf.ins ⟨n, [], 0⟩ (fun q hq => by
    obtain ⟨f, hf, rfl⟩ := List.mem_map.1 hq
    exact hn f hf) hok (Nat.le_refl _) (by have := g.wf.room; simp; exact this)
  refine ⟨h1, ⟨hM.imp (fun k _ hk => .inr (.inl hk)), h2⟩, ⟨by rw [hA]; exact hW, ?_⟩⟩
  rw [hA]
  show s.used = total (insP ⟨n, [], 0⟩ s.abs.F)
  rw [total_perm (insP_perm _ _), g.used]
  simp [total]
theorem DiskIs.ins2 {w w' : World} {B q : Nat} {s : DiskM} (h : DiskIs w B s) (g : Good s) (n : List UInt8) (hn : ∀ f ∈ s.L, f.name ≠ n) (hok : nameOk n = true)
    (hmap : w'.ownsMap Try.prog 9 ptrE s.m (s.L.length + 1) ((DataW.map (s.L.map entE)).put (.string n) (.held w.heap.size)))
    (hgr : ((w.drewN q).alloc (.cells #[.slice none 0 0, .int .i64 0] 62)).grownBy w' (some s.m)) :
    DiskIs w' B { s with L := insF ⟨n, w.heap.size, .slice none 0 0, [], 0⟩ s.L } ∧ StepD w s w' { s with L := insF ⟨n, w.heap.size, .slice none 0 0, [], 0⟩ s.L } ∧ Good { s with L := insF ⟨n, w.heap.size, .slice none 0 0, [], 0⟩ s.L } := by
  have hlt : s.m < w.heap.size := h.map.lt
  have hf : w'.heap[w.heap.size]? = some (.cells #[.slice none 0 0, .int .i64 0] 62 (0, 0)) := by
    have h1 := hgr.block w.heap.size (by simp) (fun e => by injection e with e; omega)
    exact h1.trans (heap_alloc_new (w.drewN q) _)
  refine h.ins g n hn hok w.heap.size (Nat.le_refl _) hmap hf ?_
  exact (((Moved.refl _ w).drewN q).alloc _).grown hgr (fun k hk => .inl (by injection hk with hk; exact hk.symm))
set_option maxRecDepth 100000 in
set_option maxHeartbeats 1000000 in
theorem append_none (w : World) (B : Nat) (s : DiskM) (h : DiskIs w B s) (g : Good s) (nm : ByteArray) (hs : nm.size ≤ maxLen) (A : Option Addr) (c : Nat) (l : List Int) (hS : SrcIs w s A c l)
    (ho : s.out = false) (hk : nameOk nm.data.toList = true) (hr : ¬ (l.length : Int) > s.size - s.used) (hg : getF nm.data.toList s.L = none) (hN : s.L.length ≤ 1000000) :
    Calls Try.prog 9 #[.pointer (some ⟨s.d, 0, none⟩), .string nm, .slice A l.length c] w (OpPost w B s (pAppend s.abs nm.data.toList l)) := by
  have k4 := h.c4
  have hin := fun W => isName_calls W nm (by unfold maxLen at hs; exact hs)
  have HIN := Aside0.mk hin
  have H := Aside0.mk h
  have G := Aside0.mk g
  have HSRC := Aside0.mk hS
  have hl := hS.len
  have u0 := g.u0
  have u1 := g.u1
  have s1 := g.s1
  have hu := Aside0.mk g.used
  have HNO := Aside0.mk (getF_none hg)
  have HP := Aside0.mk (pAppend_none (s := s.abs) (n := nm.data.toList) (l := l) ho hk (by rw [← g.used]; exact hr) (getP_none hg))
  have HK := Aside0.mk hk
  have HGF := Aside0.mk hg
  rw [ho] at k4
  have hd : ¬ s.size - s.used < (l.length : Int) := hr
  have hle : (l.length : Int) ≤ s.size - s.used := by omega
  have HNL := Aside0.mk hN
  have HS9 := Aside0.mk hs
  clear hin h g hS ho hk hr hg hN
  go_enter Try.func9, Try.ntmps9
  go_wp2_with (first
    | (go_at_call 20; refine (goes_calls w B s H.out G.out).mono ?_; rintro e w1 ⟨rfl, hD, hS⟩; have q0 : w1.cell? ⟨s.d, 0, none⟩ = some (.map (some s.m)) := hD.c0; have q1 : w1.cell? ⟨s.d, 1, none⟩ = some (.int .i64 s.size) := hD.c1; have q2 : w1.cell? ⟨s.d, 2, none⟩ = some (.int .i64 s.used) := hD.c2; have q3 : w1.frozen? ⟨s.d, 2, none⟩ = false := hD.fz 2; have HD := Aside0.mk hD; have HS := Aside0.mk hS; clear hD hS
       have hlook : ∀ n, (Instr.lookup 56 (.map (some s.m)) (.string nm) false).run Try.prog (w1.drewN n) = .ok (.pointer none) (w1.drewN n) := fun n => by
         have := look_at (HD.out.drewN n) nm hs
         rw [show getF nm.data.toList s.goes.L = none from HGF.out] at this
         exact this
       have e0 : ∀ n o, ((w1.drewN n).alloc o).cell? ⟨s.d, 0, none⟩ = some (.map (some s.m)) := fun n o => ((HD.out.drewN n).alloc o).c0
       have hdlt := (HD.out.foot (.inl rfl)).2
       have hdne : ¬ s.d = w1.heap.size := by have h5 : s.goes.d < w1.heap.size := hdlt; have h6 : s.goes.d = s.d := rfl; omega
       have hdne2 : ¬ w1.heap.size = s.d := fun e => hdne e.symm
       have HSR1 := Aside0.mk (HSRC.out.step HS.out)
       clear hdlt)
    | (go_at_call 21; refine (HIN.out _).mono ?_; rintro e w2 ⟨he, rfl⟩; rw [HK.out] at he; subst he))
  go_quiet (fail)
  go_wp2_with (first
    | (at_mapUpdate; refine wpList_put_d rfl _ _ _ rfl s.m s.L.length s.L rfl ((HD.out.drewN _).alloc _).map (by have := HNL.out; omega) nm HS9.out w1.heap.size rfl rfl ?_; intro w2 hown2 hgr2
       have hins := HD.out.ins2 G.out.goes nm.data.toList HNO.out HK.out hown2 hgr2
       have HI := Aside0.mk hins
       have z2 : w2.cell? ⟨s.d, 2, none⟩ = some (.int .i64 s.used) := hins.1.c2
       have z3 : w2.frozen? ⟨s.d, 2, none⟩ = false := hins.1.fz 2
       obtain ⟨L1, L2, e1, e2⟩ := insF_split ⟨nm.data.toList, w1.heap.size, .slice none 0 0, [], 0⟩ s.L
       have HE := Aside0.mk (And.intro e1 e2)
       have hmem : (⟨nm.data.toList, w1.heap.size, .slice none 0 0, [], 0⟩ : FileM) ∈ insF ⟨nm.data.toList, w1.heap.size, .slice none 0 0, [], 0⟩ s.L := by rw [e1]; simp
       have hFI := hins.1.file _ hmem
       have y0 : w2.cell? ⟨w1.heap.size, 0, none⟩ = some (.slice none 0 0) := hFI.c0
       have y1 : w2.frozen? ⟨w1.heap.size, 0, none⟩ = false := hFI.fz 0
       have HMM := Aside0.mk hmem
       have HSR2 := Aside0.mk (HSR1.out.step hins.2.1)
       clear hown2 hgr2 hins e1 e2 hmem hFI)
    | (at_builtin; refine wpList_append_d rfl _ _ rfl B (.slice none 0 0) [] l rfl (DRow.nil _ _) (.slice A l.length c) rfl (src_of_C HSR2.out.reads HSR2.out.cap) (by simp; omega) HI.out.1.le ?_; intro v3 w3 hown hgr hat; obtain ⟨A3, c3, hv3, hc3, -⟩ := hown.slice; rw [List.nil_append] at hv3 hc3; subst hv3; have HO := Aside0.mk hown; have HG := Aside0.mk hgr; have HAT := Aside0.mk hat
       have hFr : ∀ k, k < w2.heap.size → w3.heap[k]? = w2.heap[k]? := fun k hk => hgr.block k hk (by simp [Value.ownBlock])
       have HFR := Aside0.mk hFr
       have hp1 := hFr w1.heap.size (HI.out.1.foot (.inr (.inr ⟨_, HMM.out, .inl rfl⟩))).2
       have hd1 := hFr s.d (HI.out.1.foot (.inl rfl)).2
       have x0 : w3.cell? ⟨w1.heap.size, 0, none⟩ = some (.slice none 0 0) := (World.cell?_of_block hp1).trans y0
       have x1 : w3.frozen? ⟨w1.heap.size, 0, none⟩ = false := (World.frozen?_of_block hp1).trans y1
       have x2 : w3.cell? ⟨s.d, 2, none⟩ = some (.int .i64 s.used) := (World.cell?_of_block hd1).trans z2
       have x3 : w3.frozen? ⟨s.d, 2, none⟩ = false := (World.frozen?_of_block hd1).trans z3
       have HP1 := Aside0.mk hp1; have HD1 := Aside0.mk hd1
       clear hown hgr hat hFr hp1 hd1))
  all_goals
    go_ret
    rw [HP.out]
    have hgo : s.abs.goes.out = s.goes.out := rfl
    refine ⟨by simp [hgo, *], _, OpDone.upd (t := { s.goes with L := insF ⟨nm.data.toList, w1.heap.size, .slice none 0 0, [], 0⟩ s.L }) (f' := ⟨nm.data.toList, w1.heap.size, .slice A3 l.length c3, l, 0⟩) (HS.out.trans HI.out.2.1) rfl rfl HI.out.1 HI.out.2.2 HE.out.1 rfl rfl rfl (Nat.zero_le _) (by show s.used - ((0 : Nat) : Int) + (l.length : Int) ≤ s.size; omega) ?_ ⟨(HI.out.1.file _ HMM.out).pB, ?_, ?_⟩ ?_ (fun F hF => ?_) ?_⟩
    · have hh := HD1.out.trans HI.out.1.head
      have hh2 : (w3.setCell ⟨w1.heap.size, 0, none⟩ (.slice A3 l.length c3)).heap[s.d]? = _ := (Below.heap_setCell _ ⟨w1.heap.size, 0, none⟩ _ _ hdne).trans hh
      refine (blk_set hh2 2 _).trans ?_
      have he : s.used + (l.length : Int) = s.used - ((0 : Nat) : Int) + (l.length : Int) := by omega
      rw [he]
      rfl
    · refine (Below.heap_setCell _ ⟨s.d, 2, none⟩ _ _ hdne2).trans ?_
      refine (blk_set (HP1.out.trans (HI.out.1.file _ HMM.out).head) 0 _).trans ?_
      rfl
    · refine (by have := HO.out; rw [List.nil_append] at this; exact this : DRow w3 B (.slice A3 l.length c3) l).move fun k hk => ?_
      have h1 : w2.heap.size ≤ k := by
        rcases HAT.out with h | h
        · have := h.symm.trans hk; simp [Value.ownBlock] at this
        · have := h.symm.trans hk; injection this with this; omega
      have h2 := (HI.out.1.foot (.inr (.inr ⟨_, HMM.out, .inl rfl⟩))).2
      have h3 : s.d < w2.heap.size := (HI.out.1.foot (.inl rfl)).2
      have h4 : w1.heap.size < w2.heap.size := h2
      rw [Below.heap_setCell _ _ _ _ (by show k ≠ s.d; omega), Below.heap_setCell _ _ _ _ (by show k ≠ w1.heap.size; omega)]
    · intro k hk
      rcases HAT.out with h | h
      · have := h.symm.trans hk; simp [Value.ownBlock] at this
      · refine .inr ?_
        have := h.symm.trans hk; injection this with this; omega
    · exact (((Moved.refl F w2).grown HG.out (fun k hk => by simp [Value.ownBlock] at hk)).setCell (.inl (hF _ (.inr (.inl rfl)))) _).setCell (.inl (hF _ (.inl rfl))) _
    · show (⟨(L1 ++ _ :: L2).map absF, _, _, _⟩ : PD) = _
      rw [List.map_append, List.map_cons]
      show _ = (⟨insP ⟨nm.data.toList, l, 0⟩ (s.L.map absF), _, _, _⟩ : PD)
      rw [HE.out.2 ⟨nm.data.toList, l, 0⟩ rfl]
      rfl
theorem append_calls (w : World) (B : Nat) (s : DiskM) (h : DiskIs w B s) (g : Good s) (nm : ByteArray) (hs : nm.size ≤ maxLen) (A : Option Addr) (c : Nat) (l : List Int) (hS : SrcIs w s A c l) (hN : s.L.length ≤ 1000000) :
    Calls Try.prog 9 #[.pointer (some ⟨s.d, 0, none⟩), .string nm, .slice A l.length c] w (OpPost w B s (pAppend s.abs nm.data.toList l)) := by
  by_cases h1 : s.out = true ∨ nameOk nm.data.toList = false ∨ (l.length : Int) > s.size - s.used
  · exact append_refused w B s h g nm hs A c l hS h1
  · have ho : s.out = false := by cases e : s.out with | false => rfl | true => exact absurd (.inl e) h1
    have hk : nameOk nm.data.toList = true := by cases e : nameOk nm.data.toList with | true => rfl | false => exact absurd (.inr (.inl e)) h1
    have hr : ¬ (l.length : Int) > s.size - s.used := fun e => h1 (.inr (.inr e))
    cases hg : getF nm.data.toList s.L with
    | some f => exact append_some w B s h g nm hs A c l hS ho hk hr f hg
    | none => exact append_none w B s h g nm hs A c l hS ho hk hr hg hN
end Go.Proofs.Ytlbeehefandfhaa.Pr
