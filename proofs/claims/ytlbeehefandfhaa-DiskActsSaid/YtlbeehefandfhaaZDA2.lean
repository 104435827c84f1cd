/- A part of the proof of the law that RowDiskActs shows: lemmas, and contracts of the calls that it reaches. -/
import Derived.Test.YtlbeehefandfhaaProg
import Derived.Below
import Derived.Deep.Draws
import Derived.Deep.AppendLies
import Derived.Maps.AppendAt
import Derived.OwnWalk
import Derived.Laws.BytesArg
import Derived.Laws.MakeOwn
import Derived.Laws.OwnMore
import Derived.Deep.OwnRows
import Derived.Tactics
import Derived.Lib.ConvBytes
import Derived.Laws.Slices
import Derived.WalkKit
import Derived.KernelRfl
import Derived.RowKit3
import Derived.Deep.LoopGhost
import Derived.Deep.QuietTactic
import Derived.BigQuiet
import Derived.WideLaws
import Derived.Deep.DeepCutAuto
import Derived.Deep.CutBlock
import Derived.Deep.RegionHeld3
import Derived.Laws.Rows
import Derived.Lib.AppendStr
import Derived.ArgAppend
import Derived.Laws.IdiomCopy
import Derived.OrdersHeld
import Derived.Laws.BitsLemmas
import Derived.RowKit
import Derived.Test.YtlbeehefandfhaaZDA0
import Derived.Test.YtlbeehefandfhaaZDA1
import Derived.Shelf.SlIter.Nil
import Derived.Shelf.SortM.Plain
import Derived.Shelf.SortM.SortNone
import Derived.Ground.GgzProg
import Derived.Ground.SlgmProg
import Derived.Lib.SlBytesConst
set_option linter.unusedVariables false
set_option linter.unusedSimpArgs false
section
namespace Go.Proofs.Ytlbeehefandfhaa.Pr
open Go.RowKit Go.Maps Go.Proofs.YtlbeehefandfhaaW.PrintWords Go.Proofs.YtlbeehefandfhaaW.PrintLast Go.Proofs.YtlbeehefandfhaaW.PrintMore
theorem C_stay {w w1 : World} {A : Option Addr} {l : List Int} (h : Kd.C (Kd.int .u8) w A l.length l) (hm : ∀ a, A = some a → w1.heap[a.block]? = w.heap[a.block]?) : Kd.C (Kd.int .u8) w1 A l.length l := by
  obtain ⟨h1, h2, h3⟩ := Kd.reads_of_C (d := (0 : Int)) h
  refine Kd.C_of_reads (d := (0 : Int)) ⟨h1, h2, fun hl => ?_⟩
  obtain ⟨ad, rfl, hc⟩ := h3 hl
  refine ⟨ad, rfl, fun j hj => ?_⟩
  rw [← hc j hj]
  have hb : (ad.add j).block = ad.block := by unfold Addr.add; split <;> rfl
  exact World.cell?_of_block (by rw [hb]; exact hm ad rfl)
theorem C_stayN {w w1 : World} {A : Option Addr} {l : List Int} (h : Kd.C (Kd.int .u8) w A l.length l) (hm : ∀ a, A = some a → l ≠ [] → w1.heap[a.block]? = w.heap[a.block]?) : Kd.C (Kd.int .u8) w1 A l.length l := by
  obtain ⟨h1, h2, h3⟩ := Kd.reads_of_C (d := (0 : Int)) h
  refine Kd.C_of_reads (d := (0 : Int)) ⟨h1, h2, fun hl => ?_⟩
  obtain ⟨ad, rfl, hc⟩ := h3 hl
  refine ⟨ad, rfl, fun j hj => ?_⟩
  rw [← hc j hj]
  have hb : (ad.add j).block = ad.block := by unfold Addr.add; split <;> rfl
  exact World.cell?_of_block (by rw [hb]; exact hm ad rfl (by rintro rfl; simp at hl))
structure SrcIs (w : World) (s : DiskM) (A : Option Addr) (c : Nat) (l : List Int) : Prop where
  reads : Kd.C (Kd.int .u8) w A l.length l
  cap : l.length ≤ c
  far : ∀ a, A = some a → ¬ Foot20 s a.block
  lt : ∀ a, A = some a → a.block < w.heap.size
theorem SrcIs.step {w w' : World} {s s' : DiskM} {A : Option Addr} {c : Nat} {l : List Int} (h : SrcIs w s A c l) (k : StepD w s w' s') : SrcIs w' s' A c l :=
  ⟨C_stay h.reads (fun a ha => k.moved.block _ (h.lt a ha) (h.far a ha)), h.cap, fun a ha hf => by
    rcases k.foot _ hf with h1 | h1
    · exact h.far a ha h1
    · have := h.lt a ha; omega, fun a ha => Nat.lt_of_lt_of_le (h.lt a ha) k.moved.size⟩
theorem SrcIs.len {w : World} {s : DiskM} {A : Option Addr} {c : Nat} {l : List Int} (h : SrcIs w s A c l) : l.length ≤ 9223372036854775807 := (Kd.reads_of_C (d := (0 : Int)) h.reads).2.1
theorem pAppend_out {s : PD} {n : List UInt8} {l : List Int} (h : s.out = true) : pAppend s n l = (s.goes, 200) := by unfold pAppend; rw [h]; rfl
theorem pAppend_name {s : PD} {n : List UInt8} {l : List Int} (h : s.out = false) (hn : nameOk n = false) : pAppend s n l = (s.goes, if s.goes.out then 200 else 1) := by unfold pAppend; rw [h, hn]; rfl
theorem pAppend_room {s : PD} {n : List UInt8} {l : List Int} (h : s.out = false) (hn : nameOk n = true) (hr : (l.length : Int) > s.size - total s.F) : pAppend s n l = (s.goes, 200) := by unfold pAppend; rw [h, hn]; simp only [Bool.not_true, Bool.false_eq_true, if_false]; rw [if_pos hr]
theorem pAppend_some {s : PD} {n : List UInt8} {l : List Int} {f : PF} (h : s.out = false) (hn : nameOk n = true) (hr : ¬ (l.length : Int) > s.size - total s.F) (hg : getP n s.F = some f) :
    pAppend s n l = ({ s.goes with F := updP n (fun f => { f with bs := f.bs ++ l }) s.F }, if s.goes.out then 200 else 0) := by unfold pAppend; rw [h, hn]; simp only [Bool.not_true, Bool.false_eq_true, if_false]; rw [if_neg hr, hg]
theorem pAppend_none {s : PD} {n : List UInt8} {l : List Int} (h : s.out = false) (hn : nameOk n = true) (hr : ¬ (l.length : Int) > s.size - total s.F) (hg : getP n s.F = none) :
    pAppend s n l = ({ s.goes with F := insP ⟨n, l, 0⟩ s.F }, if s.goes.out then 200 else 0) := by unfold pAppend; rw [h, hn]; simp only [Bool.not_true, Bool.false_eq_true, if_false]; rw [if_neg hr, hg]
set_option maxHeartbeats 800000 in
theorem append_refused (w : World) (B : Nat) (s : DiskM) (h : DiskIs w B s) (g : Good s) (nm : ByteArray) (hs : nm.size ≤ maxLen) (A : Option Addr) (c : Nat) (l : List Int) (hS : SrcIs w s A c l)
    (hn : s.out = true ∨ nameOk nm.data.toList = false ∨ (l.length : Int) > s.size - s.used) :
    Calls Try.prog 9 #[.pointer (some ⟨s.d, 0, none⟩), .string nm, .slice A l.length c] w (OpPost w B s (pAppend s.abs nm.data.toList l)) := by
  have k4 := h.c4
  have hin := fun W => isName_calls W nm (by unfold maxLen at hs; exact hs)
  have HIN := Aside0.mk hin
  have H := Aside0.mk h
  have G := Aside0.mk g
  have HN := Aside0.mk hn
  have hl := hS.len
  have u0 := g.u0
  have u1 := g.u1
  have s1 := g.s1
  have hu := Aside0.mk g.used
  clear hin h g hn hS
  cases ho : s.out with
  | true =>
    have HP := Aside0.mk (pAppend_out (s := s.abs) (n := nm.data.toList) (l := l) ho)
    rw [ho] at k4
    clear ho
    go_enter Try.func9, Try.ntmps9
    go_wp2_with (go_at_call 20; refine (goes_calls w B s H.out G.out).mono ?_; rintro e w1 ⟨rfl, hD, hS⟩; have HD := Aside0.mk hD; have HS := Aside0.mk hS; clear hD hS)
    go_ret
    rw [HP.out]
    exact ⟨rfl, _, OpDone.goes HD.out HS.out G.out rfl⟩
  | false =>
    rw [ho] at k4
    cases hk : nameOk nm.data.toList with
    | false =>
      have HP := Aside0.mk (pAppend_name (s := s.abs) (n := nm.data.toList) (l := l) ho hk)
      have HK := Aside0.mk hk
      cases hgo : s.goes.out with
      | true =>
        have HGO := Aside0.mk hgo
        clear ho hk hgo
        go_enter Try.func9, Try.ntmps9
        go_wp2_with (first
          | (go_at_call 20; refine (goes_calls w B s H.out G.out).mono ?_; rintro e w1 ⟨he, hD, hS⟩; rw [HGO.out] at he; subst he; have HD := Aside0.mk hD; have HS := Aside0.mk hS; clear hD hS)
          | (go_at_call 21; refine (HIN.out _).mono ?_; rintro e w2 ⟨he, rfl⟩; rw [HK.out] at he; subst he))
        go_ret
        rw [HP.out]
        exact ⟨by rw [← abs_goes, show s.goes.abs.out = true from HGO.out]; rfl, _, OpDone.goes HD.out HS.out G.out rfl⟩
      | false =>
        have HGO := Aside0.mk hgo
        clear ho hk hgo
        go_enter Try.func9, Try.ntmps9
        go_wp2_with (first
          | (go_at_call 20; refine (goes_calls w B s H.out G.out).mono ?_; rintro e w1 ⟨he, hD, hS⟩; rw [HGO.out] at he; subst he; have HD := Aside0.mk hD; have HS := Aside0.mk hS; clear hD hS)
          | (go_at_call 21; refine (HIN.out _).mono ?_; rintro e w2 ⟨he, rfl⟩; rw [HK.out] at he; subst he))
        go_ret
        rw [HP.out]
        exact ⟨by rw [← abs_goes, show s.goes.abs.out = false from HGO.out]; rfl, _, OpDone.goes HD.out HS.out G.out rfl⟩
    | true =>
      have hr : (l.length : Int) > s.size - s.used := by
        rcases HN.out with h | h | h
        · rw [ho] at h; cases h
        · rw [hk] at h; cases h
        · exact h
      have HP := Aside0.mk (pAppend_room (s := s.abs) (n := nm.data.toList) (l := l) ho hk (by rw [← hu.out]; exact hr))
      have HK := Aside0.mk hk
      have hd : s.size - s.used < (l.length : Int) := hr
      clear ho hk hr
      go_enter Try.func9, Try.ntmps9
      go_wp2_with (first
          | (go_at_call 20; refine (goes_calls w B s H.out G.out).mono ?_; rintro e w1 ⟨rfl, hD, hS⟩; have q1 : w1.cell? ⟨s.d, 1, none⟩ = some (.int .i64 s.size) := hD.c1; have q2 : w1.cell? ⟨s.d, 2, none⟩ = some (.int .i64 s.used) := hD.c2; have HD := Aside0.mk hD; have HS := Aside0.mk hS; clear hD hS)
          | (go_at_call 21; refine (HIN.out _).mono ?_; rintro e w2 ⟨he, rfl⟩; rw [HK.out] at he; subst he))
      go_quiet (fail)
      go_wp2
      go_ret
      rw [HP.out]
      exact ⟨rfl, _, OpDone.goes (HD.out.drewN _) ⟨HS.out.moved.drewN _, HS.out.foot⟩ G.out rfl⟩
end Go.Proofs.Ytlbeehefandfhaa.Pr
end
section
namespace Go.Proofs.Ytlbeehefandfhaa.Pr
open Go.RowKit Go.Maps Go.Proofs.YtlbeehefandfhaaW.PrintWords Go.Proofs.YtlbeehefandfhaaW.PrintLast Go.Proofs.YtlbeehefandfhaaW.PrintMore
set_option maxHeartbeats 1000000 in
theorem append_some (w : World) (B : Nat) (s : DiskM) (h : DiskIs w B s) (g : Good s) (nm : ByteArray) (hs : nm.size ≤ maxLen) (A : Option Addr) (c : Nat) (l : List Int) (hS : SrcIs w s A c l)
    (ho : s.out = false) (hk : nameOk nm.data.toList = true) (hr : ¬ (l.length : Int) > s.size - s.used) (f : FileM) (hg : getF nm.data.toList s.L = some f) :
    Calls Try.prog 9 #[.pointer (some ⟨s.d, 0, none⟩), .string nm, .slice A l.length c] w (OpPost w B s (pAppend s.abs nm.data.toList l)) := by
  have k4 := h.c4
  have hin := fun W => isName_calls W nm (by unfold maxLen at hs; exact hs)
  have HIN := Aside0.mk hin
  have H := Aside0.mk h
  have G := Aside0.mk g
  have HSRC := Aside0.mk hS
  have hl := hS.len
  have u0 := g.u0
  have u1 := g.u1
  have s1 := g.s1
  have hu := Aside0.mk g.used
  obtain ⟨L1, L2, hL, hfn, hL1⟩ := getF_some hg
  have HP := Aside0.mk ((pAppend_some (s := s.abs) (n := nm.data.toList) (l := l) ho hk (by rw [← g.used]; exact hr) (getP_at hg)).trans (by rw [abs_at hL hfn hL1]))
  have HK := Aside0.mk hk
  have HL := Aside0.mk hL
  have HM := Aside0.mk (show f ∈ s.goes.L from List.mem_of_find?_eq_some hg)
  have HGF := Aside0.mk hg
  rw [ho] at k4
  have hd : ¬ s.size - s.used < (l.length : Int) := hr
  have b0 := (bs_le g (List.mem_of_find?_eq_some hg)).1
  have HF1 := Aside0.mk (bs_le g (List.mem_of_find?_eq_some hg)).2
  have hle : (l.length : Int) ≤ s.size - s.used := by omega
  clear hin h g hS ho hk hr hg hL hL1 hfn
  go_enter Try.func9, Try.ntmps9
  go_wp2_with (first
    | (go_at_call 20; refine (goes_calls w B s H.out G.out).mono ?_; rintro e w1 ⟨rfl, hD, hS⟩; have q0 : w1.cell? ⟨s.d, 0, none⟩ = some (.map (some s.m)) := hD.c0; have q1 : w1.cell? ⟨s.d, 1, none⟩ = some (.int .i64 s.size) := hD.c1; have q2 : w1.cell? ⟨s.d, 2, none⟩ = some (.int .i64 s.used) := hD.c2; have HD := Aside0.mk hD; have HS := Aside0.mk hS; clear hD hS
       have hF := HD.out.file f HM.out
       obtain ⟨Af, cf, hv, hcf, hcm⟩ := hF.row.slice
       have HV := Aside0.mk hv
       have f0 := hF.c0
       rw [hv] at f0
       have hlook : ∀ n, (Instr.lookup 56 (.map (some s.m)) (.string nm) false).run Try.prog (w1.drewN n) = .ok (.pointer (some ⟨f.p, 0, none⟩)) (w1.drewN n) := fun n => by
         have := look_at (HD.out.drewN n) nm hs
         rw [show getF nm.data.toList s.goes.L = some f from HGF.out] at this
         exact this
       have HSR1 := Aside0.mk (HSRC.out.step HS.out)
       clear hF hv)
    | (go_at_call 21; refine (HIN.out _).mono ?_; rintro e w2 ⟨he, rfl⟩; rw [HK.out] at he; subst he))
  go_quiet (fail)
  go_wp2_with (
     at_builtin; refine wpList_append_d rfl _ _ rfl B f.v f.bs l (by rw [HV.out]; rfl) ((HD.out.drewN _).file f HM.out).row (.slice A l.length c) rfl (src_of_C (Kd.C_drewN HSR1.out.reads _) HSR1.out.cap) (by omega) (HD.out.drewN _).le ?_; intro v2 w2 hown hgr hat; obtain ⟨A2, c2, hv2, hc2, -⟩ := hown.slice; rw [List.length_append] at hv2 hc2; subst hv2; have HO := Aside0.mk hown; have HG := Aside0.mk hgr; have HAT := Aside0.mk hat
     have hFr : ∀ k, k < w1.heap.size → f.v.ownBlock ≠ some k → w2.heap[k]? = w1.heap[k]? := fun k hk hn => hgr.block k hk (fun e => hn e.symm)
     have hp1 : w2.heap[f.p]? = w1.heap[f.p]? := hFr _ (HD.out.foot (.inr (.inr ⟨f, HM.out, .inl rfl⟩))).2 (fun e => HD.out.fr HM.out HM.out e rfl)
     have hd1 : w2.heap[s.d]? = w1.heap[s.d]? := hFr _ (HD.out.foot (.inl rfl)).2 (fun e => HD.out.dr HM.out e rfl)
     have z0 : w2.cell? ⟨f.p, 0, none⟩ = some f.v := (World.cell?_of_block hp1).trans (HD.out.file f HM.out).c0
     have z1 : w2.frozen? ⟨f.p, 0, none⟩ = false := (World.frozen?_of_block hp1).trans ((HD.out.file f HM.out).fz 0)
     have z2 : w2.cell? ⟨s.d, 2, none⟩ = some (.int .i64 s.used) := (World.cell?_of_block hd1).trans HD.out.c2
     have z3 : w2.frozen? ⟨s.d, 2, none⟩ = false := (World.frozen?_of_block hd1).trans (HD.out.fz 2)
     have hne : ¬ f.p = s.d := HD.out.df HM.out
     have hne' : ¬ s.d = f.p := fun e => HD.out.df HM.out e.symm
     have HP1 := Aside0.mk hp1; have HD1 := Aside0.mk hd1
     clear hown hgr hat hFr hp1 hd1)
  all_goals
    go_ret
    rw [HP.out]
    have hgo : s.abs.goes.out = s.goes.out := rfl
    refine ⟨by simp [hgo, *], _, OpDone.upd (f' := { f with v := .slice A2 (f.bs.length + l.length) c2, bs := f.bs ++ l }) HS.out rfl rfl HD.out G.out.goes HL.out rfl rfl rfl (by show f.fast ≤ (f.bs ++ l).length; rw [List.length_append]; have := HF1.out; omega) (by show s.used - (f.bs.length : Int) + ((f.bs ++ l).length : Int) ≤ s.size; rw [List.length_append]; omega) ?_ ⟨(HD.out.file f HM.out).pB, ?_, ?_⟩ ?_ (fun F hF => ?_) ?_⟩
    · have hh := HD1.out.trans HD.out.head
      have hh2 : (w2.setCell ⟨f.p, 0, none⟩ (.slice A2 (f.bs.length + l.length) c2)).heap[s.d]? = some (.cells (cellsD s.goes) 58 (0, 0)) := (Below.heap_setCell _ ⟨f.p, 0, none⟩ _ _ hne').trans hh
      refine (blk_set hh2 2 _).trans ?_
      have he : s.used + (l.length : Int) = s.used - (f.bs.length : Int) + ((f.bs ++ l).length : Int) := by rw [List.length_append]; omega
      rw [he]
      rfl
    · rw [Below.heap_setCell _ _ _ _ hne, blk_set (HP1.out.trans (HD.out.file f HM.out).head) 0 _]
      rfl
    · refine HO.out.move fun k hk => ?_
      have h1 : k ≠ f.p ∧ k ≠ s.d := by
        rcases HAT.out with h | h
        · rw [h] at hk
          exact ⟨HD.out.fr HM.out HM.out hk, HD.out.dr HM.out hk⟩
        · rw [h] at hk
          have h2 := (HD.out.foot (.inr (.inr ⟨f, HM.out, .inl rfl⟩))).2
          have h3 := (HD.out.foot (.inl rfl)).2
          have h4 : w1.heap.size = k := by injection hk
          refine ⟨fun e => by omega, fun e => ?_⟩
          have h5 : k = s.goes.d := e
          omega
      rw [Below.heap_setCell _ _ _ _ h1.2, Below.heap_setCell _ _ _ _ h1.1]
    · intro k hk
      rcases HAT.out with h | h
      · exact .inl (by rw [← h]; exact hk)
      · refine .inr ?_
        have h4 : w1.heap.size = k := by have := h.symm.trans hk; injection this
        omega
    · exact ((((Moved.refl F w1).drewN _).grown HG.out (fun k hk => .inl (hF k (.inr (.inr hk))))).setCell (.inl (hF _ (.inr (.inl rfl)))) _).setCell (.inl (hF _ (.inl rfl))) _
    · show (⟨(L1 ++ _ :: L2).map absF, _, _, _⟩ : PD) = _
      rw [List.map_append, List.map_cons]
      rfl
end Go.Proofs.Ytlbeehefandfhaa.Pr
end
section
namespace Go.Proofs.Ytlbeehefandfhaa.Pr
open Go.RowKit Go.Maps Go.Proofs.YtlbeehefandfhaaW.PrintWords Go.Proofs.YtlbeehefandfhaaW.PrintLast Go.Proofs.YtlbeehefandfhaaW.PrintMore
theorem insF_split (f : FileM) : ∀ L : List FileM, ∃ L1 L2, insF f L = L1 ++ f :: L2 ∧ ∀ q : PF, q.name = f.name → insP q (L.map absF) = L1.map absF ++ q :: L2.map absF
  | [] => ⟨[], [], rfl, fun q _ => rfl⟩
  | g :: r => by
    obtain ⟨L1, L2, h1, h2⟩ := insF_split f r
    by_cases hb : bytesBefore f.name g.name = true
    · refine ⟨[], g :: r, by simp [insF, hb], fun q hq => ?_⟩
      have : bytesBefore q.name (absF g).name = true := by rw [hq]; exact hb
      simp [insP, this]
    · refine ⟨g :: L1, L2, by simp [insF, hb, h1], fun q hq => ?_⟩
      have : ¬ bytesBefore q.name (absF g).name = true := by rw [hq]; exact hb
      simp [insP, this, h2 q hq]
theorem DiskIs.ins {w w' : World} {B : Nat} {s : DiskM} (h : DiskIs w B s) (g : Good s) (n : List UInt8) (hn : ∀ f ∈ s.L, f.name ≠ n) (hok : nameOk n = true) (p : Nat) (hp : w.heap.size ≤ p)
    (hmap : w'.ownsMap Try.prog 9 ptrE s.m (s.L.length + 1) ((DataW.map (s.L.map entE)).put (.string n) (.held p)))
    (hf : w'.heap[p]? = some (.cells #[.slice none 0 0, .int .i64 0] 62 (0, 0)))
    (hM : Moved (fun k => k = s.m) w w') :
    DiskIs w' B { s with L := insF ⟨n, p, .slice none 0 0, [], 0⟩ s.L } ∧ StepD w s w' { s with L := insF ⟨n, p, .slice none 0 0, [], 0⟩ s.L } ∧ Good { s with L := insF ⟨n, p, .slice none 0 0, [], 0⟩ s.L } := by
  have hpm := insF_perm ⟨n, p, .slice none 0 0, [], 0⟩ s.L
  have hB := h.le
  have hF0 : FileIs w' B ⟨n, p, .slice none 0 0, [], 0⟩ := ⟨Nat.le_trans hB hp, hf, DRow.nil _ _⟩
  have hput : (DataW.map (s.L.map entE)).put (.string n) (.held p) = .map ((insF ⟨n, p, .slice none 0 0, [], 0⟩ s.L).map entE) := by
    have := put_ent ⟨n, p, .slice none 0 0, [], 0⟩ s.L
    rw [delF_none hn] at this
    exact this
  have hd := h.dm
  have hmv : ∀ k, k < w.heap.size → k ≠ s.m → w'.heap[k]? = w.heap[k]? := fun k hk hm => hM.block k hk hm
  obtain ⟨h1, h2⟩ := h.remap (w' := w') (s' := { s with L := insF ⟨n, p, .slice none 0 0, [], 0⟩ s.L }) rfl rfl ((hmv _ (h.foot (.inl rfl)).2 hd).trans h.head)
    (by rw [hput] at hmap; rw [show (insF ⟨n, p, .slice none 0 0, [], 0⟩ s.L).length = s.L.length + 1 from hpm.length_eq]; exact hmap)
    ((hpm.pairwise_iff (fun h => ApartF.symm h)).2 (List.pairwise_cons.2 ⟨fun f hf => ⟨fun e => by have := (h.foot (.inr (.inr ⟨f, hf, .inl rfl⟩))).2; have e2 : p = f.p := e; omega, fun k hk => by simp [Value.ownBlock] at hk⟩, h.apart⟩))
    (fun f hf => by
      rcases List.mem_cons.1 (hpm.mem_iff.1 hf) with rfl | hf
      · exact .inr ⟨hF0, hp, fun k hk => by simp [Value.ownBlock] at hk⟩
      · exact .inl ⟨f, hf, rfl, rfl, rfl, rfl⟩)
    (fun k hk _ hm => hmv k hk hm)
  have hA : ({ s with L := insF ⟨n, p, .slice none 0 0, [], 0⟩ s.L } : DiskM).abs = { s.abs with F := insP ⟨n, [], 0⟩ s.abs.F } := by
    obtain ⟨L1, L2, e1, e2⟩ := insF_split ⟨n, p, .slice none 0 0, [], 0⟩ s.L
    unfold DiskM.abs
    rw [show insP ⟨n, [], 0⟩ (s.L.map absF) = _ from e2 ⟨n, [], 0⟩ rfl, e1, List.map_append, List.map_cons]
    rfl
  have hW := g.wf.ins ⟨n, [], 0⟩ (fun q hq => by
    obtain ⟨f, hf, rfl⟩ := List.mem_map.1 hq
    exact hn f hf) hok (Nat.le_refl _) (by have := g.wf.room; simp; exact this)
  refine ⟨h1, ⟨hM.imp (fun k _ hk => .inr (.inl hk)), h2⟩, ⟨by rw [hA]; exact hW, ?_⟩⟩
  rw [hA]
  show s.used = total (insP ⟨n, [], 0⟩ s.abs.F)
  rw [total_perm (insP_perm _ _), g.used]
  simp [total]
theorem DiskIs.ins2 {w w' : World} {B q : Nat} {s : DiskM} (h : DiskIs w B s) (g : Good s) (n : List UInt8) (hn : ∀ f ∈ s.L, f.name ≠ n) (hok : nameOk n = true)
    (hmap : w'.ownsMap Try.prog 9 ptrE s.m (s.L.length + 1) ((DataW.map (s.L.map entE)).put (.string n) (.held w.heap.size)))
    (hgr : ((w.drewN q).alloc (.cells #[.slice none 0 0, .int .i64 0] 62)).grownBy w' (some s.m)) :
    DiskIs w' B { s with L := insF ⟨n, w.heap.size, .slice none 0 0, [], 0⟩ s.L } ∧ StepD w s w' { s with L := insF ⟨n, w.heap.size, .slice none 0 0, [], 0⟩ s.L } ∧ Good { s with L := insF ⟨n, w.heap.size, .slice none 0 0, [], 0⟩ s.L } := by
  have hlt : s.m < w.heap.size := h.map.lt
  have hf : w'.heap[w.heap.size]? = some (.cells #[.slice none 0 0, .int .i64 0] 62 (0, 0)) := by
    have h1 := hgr.block w.heap.size (by simp) (fun e => by injection e with e; omega)
    exact h1.trans (heap_alloc_new (w.drewN q) _)
  refine h.ins g n hn hok w.heap.size (Nat.le_refl _) hmap hf ?_
  exact (((Moved.refl _ w).drewN q).alloc _).grown hgr (fun k hk => .inl (by injection hk with hk; exact hk.symm))
set_option maxRecDepth 100000 in
set_option maxHeartbeats 1000000 in
theorem append_none (w : World) (B : Nat) (s : DiskM) (h : DiskIs w B s) (g : Good s) (nm : ByteArray) (hs : nm.size ≤ maxLen) (A : Option Addr) (c : Nat) (l : List Int) (hS : SrcIs w s A c l)
    (ho : s.out = false) (hk : nameOk nm.data.toList = true) (hr : ¬ (l.length : Int) > s.size - s.used) (hg : getF nm.data.toList s.L = none) (hN : s.L.length ≤ 1000000) :
    Calls Try.prog 9 #[.pointer (some ⟨s.d, 0, none⟩), .string nm, .slice A l.length c] w (OpPost w B s (pAppend s.abs nm.data.toList l)) := by
  have k4 := h.c4
  have hin := fun W => isName_calls W nm (by unfold maxLen at hs; exact hs)
  have HIN := Aside0.mk hin
  have H := Aside0.mk h
  have G := Aside0.mk g
  have HSRC := Aside0.mk hS
  have hl := hS.len
  have u0 := g.u0
  have u1 := g.u1
  have s1 := g.s1
  have hu := Aside0.mk g.used
  have HNO := Aside0.mk (getF_none hg)
  have HP := Aside0.mk (pAppend_none (s := s.abs) (n := nm.data.toList) (l := l) ho hk (by rw [← g.used]; exact hr) (getP_none hg))
  have HK := Aside0.mk hk
  have HGF := Aside0.mk hg
  rw [ho] at k4
  have hd : ¬ s.size - s.used < (l.length : Int) := hr
  have hle : (l.length : Int) ≤ s.size - s.used := by omega
  have HNL := Aside0.mk hN
  have HS9 := Aside0.mk hs
  clear hin h g hS ho hk hr hg hN
  go_enter Try.func9, Try.ntmps9
  go_wp2_with (first
    | (go_at_call 20; refine (goes_calls w B s H.out G.out).mono ?_; rintro e w1 ⟨rfl, hD, hS⟩; have q0 : w1.cell? ⟨s.d, 0, none⟩ = some (.map (some s.m)) := hD.c0; have q1 : w1.cell? ⟨s.d, 1, none⟩ = some (.int .i64 s.size) := hD.c1; have q2 : w1.cell? ⟨s.d, 2, none⟩ = some (.int .i64 s.used) := hD.c2; have q3 : w1.frozen? ⟨s.d, 2, none⟩ = false := hD.fz 2; have HD := Aside0.mk hD; have HS := Aside0.mk hS; clear hD hS
       have hlook : ∀ n, (Instr.lookup 56 (.map (some s.m)) (.string nm) false).run Try.prog (w1.drewN n) = .ok (.pointer none) (w1.drewN n) := fun n => by
         have := look_at (HD.out.drewN n) nm hs
         rw [show getF nm.data.toList s.goes.L = none from HGF.out] at this
         exact this
       have e0 : ∀ n o, ((w1.drewN n).alloc o).cell? ⟨s.d, 0, none⟩ = some (.map (some s.m)) := fun n o => ((HD.out.drewN n).alloc o).c0
       have hdlt := (HD.out.foot (.inl rfl)).2
       have hdne : ¬ s.d = w1.heap.size := by have h5 : s.goes.d < w1.heap.size := hdlt; have h6 : s.goes.d = s.d := rfl; omega
       have hdne2 : ¬ w1.heap.size = s.d := fun e => hdne e.symm
       have HSR1 := Aside0.mk (HSRC.out.step HS.out)
       clear hdlt)
    | (go_at_call 21; refine (HIN.out _).mono ?_; rintro e w2 ⟨he, rfl⟩; rw [HK.out] at he; subst he))
  go_quiet (fail)
  go_wp2_with (first
    | (at_mapUpdate; refine wpList_put_d rfl _ _ _ rfl s.m s.L.length s.L rfl ((HD.out.drewN _).alloc _).map (by have := HNL.out; omega) nm HS9.out w1.heap.size rfl rfl ?_; intro w2 hown2 hgr2
       have hins := HD.out.ins2 G.out.goes nm.data.toList HNO.out HK.out hown2 hgr2
       have HI := Aside0.mk hins
       have z2 : w2.cell? ⟨s.d, 2, none⟩ = some (.int .i64 s.used) := hins.1.c2
       have z3 : w2.frozen? ⟨s.d, 2, none⟩ = false := hins.1.fz 2
       obtain ⟨L1, L2, e1, e2⟩ := insF_split ⟨nm.data.toList, w1.heap.size, .slice none 0 0, [], 0⟩ s.L
       have HE := Aside0.mk (And.intro e1 e2)
       have hmem : (⟨nm.data.toList, w1.heap.size, .slice none 0 0, [], 0⟩ : FileM) ∈ insF ⟨nm.data.toList, w1.heap.size, .slice none 0 0, [], 0⟩ s.L := by rw [e1]; simp
       have hFI := hins.1.file _ hmem
       have y0 : w2.cell? ⟨w1.heap.size, 0, none⟩ = some (.slice none 0 0) := hFI.c0
       have y1 : w2.frozen? ⟨w1.heap.size, 0, none⟩ = false := hFI.fz 0
       have HMM := Aside0.mk hmem
       have HSR2 := Aside0.mk (HSR1.out.step hins.2.1)
       clear hown2 hgr2 hins e1 e2 hmem hFI)
    | (at_builtin; refine wpList_append_d rfl _ _ rfl B (.slice none 0 0) [] l rfl (DRow.nil _ _) (.slice A l.length c) rfl (src_of_C HSR2.out.reads HSR2.out.cap) (by simp; omega) HI.out.1.le ?_; intro v3 w3 hown hgr hat; obtain ⟨A3, c3, hv3, hc3, -⟩ := hown.slice; rw [List.nil_append] at hv3 hc3; subst hv3; have HO := Aside0.mk hown; have HG := Aside0.mk hgr; have HAT := Aside0.mk hat
       have hFr : ∀ k, k < w2.heap.size → w3.heap[k]? = w2.heap[k]? := fun k hk => hgr.block k hk (by simp [Value.ownBlock])
       have HFR := Aside0.mk hFr
       have hp1 := hFr w1.heap.size (HI.out.1.foot (.inr (.inr ⟨_, HMM.out, .inl rfl⟩))).2
       have hd1 := hFr s.d (HI.out.1.foot (.inl rfl)).2
       have x0 : w3.cell? ⟨w1.heap.size, 0, none⟩ = some (.slice none 0 0) := (World.cell?_of_block hp1).trans y0
       have x1 : w3.frozen? ⟨w1.heap.size, 0, none⟩ = false := (World.frozen?_of_block hp1).trans y1
       have x2 : w3.cell? ⟨s.d, 2, none⟩ = some (.int .i64 s.used) := (World.cell?_of_block hd1).trans z2
       have x3 : w3.frozen? ⟨s.d, 2, none⟩ = false := (World.frozen?_of_block hd1).trans z3
       have HP1 := Aside0.mk hp1; have HD1 := Aside0.mk hd1
       clear hown hgr hat hFr hp1 hd1))
  all_goals
    go_ret
    rw [HP.out]
    have hgo : s.abs.goes.out = s.goes.out := rfl
    refine ⟨by simp [hgo, *], _, OpDone.upd (t := { s.goes with L := insF ⟨nm.data.toList, w1.heap.size, .slice none 0 0, [], 0⟩ s.L }) (f' := ⟨nm.data.toList, w1.heap.size, .slice A3 l.length c3, l, 0⟩) (HS.out.trans HI.out.2.1) rfl rfl HI.out.1 HI.out.2.2 HE.out.1 rfl rfl rfl (Nat.zero_le _) (by show s.used - ((0 : Nat) : Int) + (l.length : Int) ≤ s.size; omega) ?_ ⟨(HI.out.1.file _ HMM.out).pB, ?_, ?_⟩ ?_ (fun F hF => ?_) ?_⟩
    · have hh := HD1.out.trans HI.out.1.head
      have hh2 : (w3.setCell ⟨w1.heap.size, 0, none⟩ (.slice A3 l.length c3)).heap[s.d]? = _ := (Below.heap_setCell _ ⟨w1.heap.size, 0, none⟩ _ _ hdne).trans hh
      refine (blk_set hh2 2 _).trans ?_
      have he : s.used + (l.length : Int) = s.used - ((0 : Nat) : Int) + (l.length : Int) := by omega
      rw [he]
      rfl
    · refine (Below.heap_setCell _ ⟨s.d, 2, none⟩ _ _ hdne2).trans ?_
      refine (blk_set (HP1.out.trans (HI.out.1.file _ HMM.out).head) 0 _).trans ?_
      rfl
    · refine (by have := HO.out; rw [List.nil_append] at this; exact this : DRow w3 B (.slice A3 l.length c3) l).move fun k hk => ?_
      have h1 : w2.heap.size ≤ k := by
        rcases HAT.out with h | h
        · have := h.symm.trans hk; simp [Value.ownBlock] at this
        · have := h.symm.trans hk; injection this with this; omega
      have h2 := (HI.out.1.foot (.inr (.inr ⟨_, HMM.out, .inl rfl⟩))).2
      have h3 : s.d < w2.heap.size := (HI.out.1.foot (.inl rfl)).2
      have h4 : w1.heap.size < w2.heap.size := h2
      rw [Below.heap_setCell _ _ _ _ (by show k ≠ s.d; omega), Below.heap_setCell _ _ _ _ (by show k ≠ w1.heap.size; omega)]
    · intro k hk
      rcases HAT.out with h | h
      · have := h.symm.trans hk; simp [Value.ownBlock] at this
      · refine .inr ?_
        have := h.symm.trans hk; injection this with this; omega
    · exact (((Moved.refl F w2).grown HG.out (fun k hk => by simp [Value.ownBlock] at hk)).setCell (.inl (hF _ (.inr (.inl rfl)))) _).setCell (.inl (hF _ (.inl rfl))) _
    · show (⟨(L1 ++ _ :: L2).map absF, _, _, _⟩ : PD) = _
      rw [List.map_append, List.map_cons]
      show _ = (⟨insP ⟨nm.data.toList, l, 0⟩ (s.L.map absF), _, _, _⟩ : PD)
      rw [HE.out.2 ⟨nm.data.toList, l, 0⟩ rfl]
      rfl
theorem append_calls (w : World) (B : Nat) (s : DiskM) (h : DiskIs w B s) (g : Good s) (nm : ByteArray) (hs : nm.size ≤ maxLen) (A : Option Addr) (c : Nat) (l : List Int) (hS : SrcIs w s A c l) (hN : s.L.length ≤ 1000000) :
    Calls Try.prog 9 #[.pointer (some ⟨s.d, 0, none⟩), .string nm, .slice A l.length c] w (OpPost w B s (pAppend s.abs nm.data.toList l)) := by
  by_cases h1 : s.out = true ∨ nameOk nm.data.toList = false ∨ (l.length : Int) > s.size - s.used
  · exact append_refused w B s h g nm hs A c l hS h1
  · have ho : s.out = false := by cases e : s.out with | false => rfl | true => exact absurd (.inl e) h1
    have hk : nameOk nm.data.toList = true := by cases e : nameOk nm.data.toList with | true => rfl | false => exact absurd (.inr (.inl e)) h1
    have hr : ¬ (l.length : Int) > s.size - s.used := fun e => h1 (.inr (.inr e))
    cases hg : getF nm.data.toList s.L with
    | some f => exact append_some w B s h g nm hs A c l hS ho hk hr f hg
    | none => exact append_none w B s h g nm hs A c l hS ho hk hr hg hN
end Go.Proofs.Ytlbeehefandfhaa.Pr
end
section
namespace Go.Proofs.Ytlbeehefandfhaa.Pr
theorem fillL_append (size : Int) (tail : List Int) (keep : Int) : ∀ (A C : List PF) (u : Int), fillL size tail keep (A ++ C) u = fillL size tail keep A u ++ fillL size tail keep C (fillU size tail A u)
  | [], C, u => rfl
  | f :: r, C, u => by
    simp only [List.cons_append, fillL, fillU]
    split
    · rw [fillL_append size tail keep r C]; rfl
    · rw [fillL_append size tail keep r C]; rfl
theorem fillU_append (size : Int) (tail : List Int) : ∀ (A C : List PF) (u : Int), fillU size tail (A ++ C) u = fillU size tail C (fillU size tail A u)
  | [], C, u => rfl
  | f :: r, C, u => by
    simp only [List.cons_append, fillU]
    split
    · rw [fillU_append size tail r C]
    · rw [fillU_append size tail r C]
theorem fill_still (size : Int) (tail : List Int) (keep : Int) : ∀ (C : List PF) (u : Int), (∀ f ∈ C, isTorn f = false) → fillL size tail keep C u = C ∧ fillU size tail C u = u
  | [], u, _ => ⟨rfl, rfl⟩
  | f :: r, u, h => by
    obtain ⟨h1, h2⟩ := fill_still size tail keep r u (fun g hg => h g (List.mem_cons_of_mem _ hg))
    simp only [fillL, fillU, h f (by simp)]
    simp only [Bool.false_eq_true, if_false]
    rw [h1, h2]
    exact ⟨rfl, rfl⟩
theorem tear_still {keep : Int} {f : PF} (h : isTorn f = false) : tear keep f = f := by
  unfold isTorn at h
  have : f.bs.length = f.fast := by simpa using h
  unfold tear
  rw [if_pos this]
theorem tear_torn {keep : Int} {f : PF} (h : isTorn f = true) : tear keep f = { f with bs := f.bs.take (keptN keep f) } := by
  unfold isTorn at h
  have : ¬ f.bs.length = f.fast := by simpa using h
  unfold tear
  rw [if_neg this]
theorem keptN_le {keep : Int} {f : PF} (h : f.fast ≤ f.bs.length) : f.fast ≤ keptN keep f ∧ keptN keep f ≤ f.bs.length ∧ (keptN keep f : Int) = f.fast + min (max keep 0) ((f.bs.length : Int) - f.fast) := by
  unfold keptN
  omega
end Go.Proofs.Ytlbeehefandfhaa.Pr
end
section
namespace Go.Proofs.Ytlbeehefandfhaa.Pr
open Go.RowKit Go.Maps Go.Sort Go.Shelf
shelf_lay_g SlLaysZ.n7 Ggz 7 at Try 37 as Try.keys37
shelf_lay_g SlLaysZ.n6 Ggz 6 at Try 36 as Try.sorted36
shelf_lay_g SlLaysM.n6 Slgm 6 at Try 44 as Try.sort44
theorem Try.sorts36 (m : Nat) : AnyZ.SortsIn Try.prog Try.sorted36_ren Fence.wide m :=
  ⟨fun blk off cap ss W hH hblk hsz => callsIn_wide.2 (AnyM.slices_Sort_string Try.sort44 blk off cap ss W hH hblk hsz),
   fun p cap W => callsIn_wide.2 (AnyM.slices_Sort_string_none Try.sort44 p cap W)⟩
theorem Try.maps_Keys_37 (mb : Option Nat) (W : World) : CallsIn Fence.wide 5 Try.prog 37 #[.map mb] W fun e w' => e = .returned (.func (.func 45) #[] #[.pointer (some ⟨W.heap.size, 0, none⟩)]) ∧ w' = W.alloc (.cells #[.map mb] 56) :=
  AnyZ.keys_in Try.keys37 Fence.wide 5 trivial rfl mb W
set_option maxHeartbeats 1000000 in
theorem Try.slices_Sorted_keys_36_37 {H : Type} (b nn : Nat) (D0 : DataW H) (R : Value → Option (DataW H × List MemPlace)) (w : World) (hown : w.ownsMap Try.prog 9 R b nn D0) (hmax : Maps.size D0 ≤ maxLen) (hbytes : Maps.size D0 * 16 ≤ 140737488355328) :
    CallsIn Fence.wide 5 Try.prog 36 #[.func (.func 45) #[] #[.pointer (some ⟨w.heap.size, 0, none⟩)]] (w.alloc (.cells #[.map (some b)] 56)) fun e w' => ∃ (v : Value) (ss : List (List UInt8)), e = .returned v ∧ ss.Perm (strKeys D0) ∧
      w'.ownsRow (w.alloc (.cells #[.map (some b)] 56)).heap.size 9 1 v ss.length ((ss.mergeSort (fun x y => decide (x ≤ y))).map encStr) ∧ (v = .slice none 0 0 ↔ ss = []) ∧ Below (w.alloc (.cells #[.map (some b)] 56)).heap.size (w.alloc (.cells #[.map (some b)] 56)) w' := by
  have hbl := hown.lt
  have hseq : SeqGives Fence.wide 2 Try.prog 45 #[.pointer (some ⟨w.heap.size, 0, none⟩)] encStr (fun ss => ss.Perm (strKeys D0)) (Maps.size D0) (w.alloc (.cells #[.map (some b)] 56)) :=
    AnyZ.keys_gives (ρ := Try.keys37_ren) { Try.keys37 with } Fence.wide _ trivial rfl (by omega) w.heap.size b nn D0 _ (by simp) (by simp) (by
      obtain ⟨es, clock, hb, Ft, hs, hD⟩ := hown
      exact ⟨es, clock, (Below.heap_alloc _ _ b hbl).trans hb, Ft, hs, hD⟩)
  exact AnyZ.sorted_in Try.sorted36 Fence.wide 5 trivial trivial trivial trivial rfl (by omega) (Try.sorts36 _) (enters_of Try.func44 (by kernel_rfl) rfl) 45 #[.pointer (some ⟨w.heap.size, 0, none⟩)] trivial (enters_of Try.func45 (by kernel_rfl) rfl) _ _ hmax hbytes _ hseq
end Go.Proofs.Ytlbeehefandfhaa.Pr
end
section
namespace Go.Proofs.Ytlbeehefandfhaa.Pr
open Go.RowKit Go.Maps Go.Sort Go.Proofs.YtlbeehefandfhaaW.PrintWords Go.Proofs.YtlbeehefandfhaaW.PrintLast Go.Proofs.YtlbeehefandfhaaW.PrintMore
theorem le_of_before : ∀ a b : List UInt8, bytesBefore a b = true → a ≤ b := by
  have key : ∀ a b : List UInt8, bytesBefore a b = true → ¬ b < a := by
    intro a
    induction a with
    | nil => intro b h hlt; exact absurd hlt (List.not_lt_nil b)
    | cons x a ih =>
      intro b h hlt
      cases b with
      | nil => simp [bytesBefore] at h
      | cons y b =>
        simp only [bytesBefore, Bool.or_eq_true, Bool.and_eq_true, decide_eq_true_eq, beq_iff_eq] at h
        rw [List.cons_lt_cons_iff] at hlt
        rcases h with h | ⟨rfl, h⟩
        · rcases hlt with h2 | ⟨rfl, h2⟩
          · exact absurd (UInt8.lt_trans h h2) (UInt8.lt_irrefl _)
          · exact UInt8.lt_irrefl _ h
        · rcases hlt with h2 | ⟨_, h2⟩
          · exact UInt8.lt_irrefl _ h2
          · exact ih b h h2
  intro a b h
  exact key a b h
theorem names_calls (w : World) (B : Nat) (s : DiskM) (h : DiskIs w B s) (g : Good s) (hN : s.L.length ≤ 2000000) :
    Calls Try.prog 23 #[.pointer (some ⟨s.d, 0, none⟩)] w fun e w' => ∃ v, e = .returned v ∧ w'.ownsRow w.heap.size 9 1 v s.L.length (s.L.map fun f => encStr f.name) ∧ Below w.heap.size w w' := by
  have k0 := h.c0
  have hown := h.map
  have hsz : Maps.size (DataW.map (s.L.map entE)) = s.L.length := by simp [Maps.size]
  have hC := fun W => callsIn_wide.1 (Try.maps_Keys_37 (some s.m) W)
  have hK := callsIn_wide.1 (Try.slices_Sorted_keys_36_37 s.m s.L.length (.map (s.L.map entE)) ptrE w hown (by rw [hsz]; unfold maxLen; omega) (by rw [hsz]; omega))
  have HC := Aside0.mk hC
  have HK := Aside0.mk hK
  have hst : strKeys (DataW.map (s.L.map entE)) = s.L.map (·.name) := by simp [strKeys, entE, strOf]
  have hsorted : (s.L.map (·.name)).mergeSort leB = s.L.map (·.name) := by
    refine List.mergeSort_of_pairwise ?_
    have := g.wf.sorted
    rw [show s.abs.F = s.L.map absF from rfl, List.pairwise_map] at this
    rw [List.pairwise_map]
    refine this.imp fun {a b} hab => ?_
    show decide (a.name ≤ b.name) = true
    exact decide_eq_true (le_of_before _ _ hab)
  have HST := Aside0.mk (And.intro hst hsorted)
  clear hC hK hst hsorted hown hsz h g
  go_enter Try.func23, Try.ntmps23
  go_wp2_with (first
    | (go_at_call 37; refine (HC.out _).mono ?_; rintro e w' ⟨rfl, rfl⟩)
    | (go_at_call 36; refine HK.out.mono ?_; rintro e w' ⟨v, ss, rfl, hS, hrow, hnil, hb⟩; have HH := Aside0.mk (And.intro hS (And.intro hrow hb)); clear hS hrow hnil hb))
  go_ret
  obtain ⟨hS, hrow, hb⟩ := HH.out
  rw [HST.out.1] at hS
  have he : ss.mergeSort (fun x y => decide (x ≤ y)) = s.L.map (·.name) := (mergeSort_of_perm hS).trans HST.out.2
  rw [he, List.map_map, hS.length_eq, List.length_map] at hrow
  refine ⟨v, rfl, own_weaken hrow (by simp), ((Below.refl _ w).alloc (Nat.le_refl _) _).trans (hb.mono (by simp))⟩
end Go.Proofs.Ytlbeehefandfhaa.Pr
end
section
namespace Go.Proofs.Ytlbeehefandfhaa.Pr
open Go.RowKit Go.Maps Go.Sort Go.Proofs.YtlbeehefandfhaaW.PrintWords Go.Proofs.YtlbeehefandfhaaW.PrintLast Go.Proofs.YtlbeehefandfhaaW.PrintMore
def clipV : Value → Nat → Value
  | .slice A _ _, m => .slice A m m
  | v, _ => v
def cutM (keep : Int) (f : FileM) : FileM := if isTorn (absF f) then { f with v := clipV f.v (keptN keep (absF f)), bs := f.bs.take (keptN keep (absF f)) } else f
theorem abs_cutM (keep : Int) (f : FileM) : absF (cutM keep f) = tear keep (absF f) := by
  unfold cutM
  cases h : isTorn (absF f) with
  | false => rw [tear_still h]; rfl
  | true => rw [tear_torn h]; rfl
def tornM (L : List FileM) : List FileM := L.filter fun f => isTorn (absF f)
def ptrV (p : Nat) : Value := .pointer (some ⟨p, 0, none⟩)
structure CrA (w2 : World) (B : Nat) (s1 : DiskM) (keep : Int) (A0 C0 : List FileM) (s' : DiskM) (v6 : Value) (wr : World) : Prop where
  L : s1.L = A0 ++ C0
  sL : s'.L = A0.map (cutM keep) ++ C0
  d : s'.d = s1.d
  m : s'.m = s1.m
  size : s'.size = s1.size
  calls : s'.calls = s1.calls
  out : s'.out = s1.out
  disk : DiskIs wr B s'
  step : StepD w2 s1 wr s'
  good : Good s'
  row : wr.ownsRow w2.heap.size 60 1 v6 (tornM A0).length (((tornM A0).map (·.p)).map ptrV)
theorem ni60 : (Try.prog.info? 60).map (fun i => (i.zero, i.size, i.bytes)) = some (some (.pointer none), 1, 8) := by kernel_rfl
theorem new_at {W : World} {H : Nat} (h : W.heap.size = H) (o : Obj) : (W.alloc o).heap[H]? = some o := by subst h; exact heap_alloc_new _ _
theorem wpList_append_p {w : World} {ops : Array Oper} {rest : List Oper} {o : Oper} {a : Act} {Q : Exit → Act → World → Prop} (hgd : o.guard = none) (s x : Operand)
    (ho : o.op = .call { callee := .builtin .append, args := #[s, x], argTypes := #[65, 65] }) (base : Nat) (v : Value) (ps : List Nat) (hs : a.eval s = v) (hown : w.ownsRow base 60 1 v ps.length (ps.map ptrV))
    (p g : Nat) (hx : a.eval x = .slice (some ⟨g, 0, none⟩) 1 1) (hg : w.heap[g]? = some (.cells #[ptrV p] 60 (0, 0))) (hb : ps.length ≤ 3000000) (hbase : base ≤ w.heap.size)
    (h : ∀ v' w', w'.ownsRow base 60 1 v' (ps ++ [p]).length ((ps ++ [p]).map ptrV) → w.grownBy w' v.ownBlock → (v'.ownBlock = v.ownBlock ∨ v'.ownBlock = some w.heap.size) → wpList Try.prog ops Q rest (a.put o.dst v') w') :
    wpList Try.prog ops Q (o :: rest) a w := by
  obtain ⟨i, hi, hz, hsz, hby⟩ := info_parts ni60
  refine wpList_append_own_at w hgd s x 65 ho base 60 i (.pointer none) 1 8 Try.underlying65 hi hz hsz hby rfl (by decide) v ps.length (ps.map ptrV) hs hown ⟨g, 0, none⟩ 1 1 [ptrV p] hx rfl
    (World.news_of_block hg) (fun u hu => by rw [List.mem_singleton.1 hu]; rfl) (by unfold maxLen; omega) (by omega) hbase (fun v' w' h1 h2 _ h4 => h v' w' ?_ h2 h4)
  rw [List.length_append, List.map_append]
  exact h1
theorem OpDone.updX {w w1 w' : World} {B : Nat} {s t s' : DiskM} {p : PD} (X : Nat → Prop) (hX1 : ∀ k, X k → ¬ Foot20 t k) (hX2 : ∀ k, X k → w.heap.size ≤ k) (hs : StepD w s w1 t) (hd : t.d = s.d) (hm : t.m = s.m) (h : DiskIs w1 B t) (g : Good t) {L1 L2 : List FileM} {f f' : FileM} (hL : t.L = L1 ++ f :: L2) (e' : s' = { t with L := L1 ++ f' :: L2, used := t.used - f.bs.length + f'.bs.length })
    (hn : f'.name = f.name) (hp : f'.p = f.p) (hfast : f'.fast ≤ f'.bs.length) (hroom : t.used - f.bs.length + f'.bs.length ≤ t.size)
    (hhead : w'.heap[t.d]? = some (.cells (cellsD s') 58 (0, 0))) (hfile : FileIs w' B f') (hat : ∀ k, f'.v.ownBlock = some k → f.v.ownBlock = some k ∨ w1.heap.size ≤ k)
    (hmv : ∀ F, (∀ k, k = t.d ∨ k = f.p ∨ f.v.ownBlock = some k ∨ X k → F k) → Moved F w1 w') (hab : s'.abs = p) : OpDone w B s p w' s' := by
  subst e'
  have hM := hmv (fun k => k = t.d ∨ k = f.p ∨ f.v.ownBlock = some k ∨ X k) (fun k h => h)
  obtain ⟨h1, h2⟩ := h.upd (s' := { t with L := L1 ++ f' :: L2, used := t.used - f.bs.length + f'.bs.length }) hL rfl rfl rfl hn hp hhead hfile hat (fun k hk h1 h2 h3 => hM.block k (h.foot hk).2 (fun hf => by rcases hf with h | h | h | h; exact h1 h; exact h2 h; exact h3 h; exact hX1 k h hk))
  have hfm : f ∈ t.L := by rw [hL]; simp
  have hM2 : Moved (fun k => Foot20 t k ∨ X k) w1 w' := hmv _ (fun k hk => by
    rcases hk with rfl | rfl | hk | hk
    · exact .inl (.inl rfl)
    · exact .inl (.inr (.inr ⟨f, hfm, .inl rfl⟩))
    · exact .inl (.inr (.inr ⟨f, hfm, .inr hk⟩))
    · exact .inr hk)
  have hF : t.abs.F = L1.map absF ++ absF f :: L2.map absF := by show t.L.map absF = _; rw [hL]; simp
  have hu := g.used
  have hW := g.wf.at (f' := absF f') hF hn hfast (by
    show total t.abs.F - (f.bs.length : Int) + f'.bs.length ≤ t.size
    rw [← hu]; exact hroom)
  have hT : total (L1.map absF ++ absF f' :: L2.map absF) = t.used - f.bs.length + f'.bs.length := by
    rw [hu, hF, total_at, total_at]
    show total _ + (f'.bs.length : Int) + _ = _ + (f.bs.length : Int) + _ - _ + _
    omega
  have hA : ({ t with L := L1 ++ f' :: L2, used := t.used - f.bs.length + f'.bs.length } : DiskM).abs = { t.abs with F := L1.map absF ++ absF f' :: L2.map absF } := by
    unfold DiskM.abs
    simp
  have hmv2 : Moved (Foot20 s) w w' := hs.moved.trans hM2 (fun k hk => by
    rcases hk with hk | hk
    · exact hs.foot k hk
    · exact .inr (hX2 k hk))
  refine ⟨h1, ⟨hmv2, fun k hk => ?_⟩, ⟨by rw [hA]; exact hW, by rw [hA]; exact hT.symm⟩, hab, hd, hm⟩
  rcases h2 k hk with h3 | h3
  · exact hs.foot k h3
  · exact .inr (Nat.le_trans hs.moved.size h3)
def DiskM.reset (s : DiskM) : DiskM := { s with calls := -1, out := false }
theorem reset_calls {w : World} {B : Nat} {s : DiskM} (h : DiskIs w B s) (g : Good s) :
    DiskIs ((w.setCell ⟨s.d, 3, none⟩ (.int .i64 (-1))).setCell ⟨s.d, 4, none⟩ (.bool false)) B s.reset ∧ StepD w s ((w.setCell ⟨s.d, 3, none⟩ (.int .i64 (-1))).setCell ⟨s.d, 4, none⟩ (.bool false)) s.reset ∧ Good s.reset := by
  obtain ⟨h1, h2⟩ := h.headed (w' := (w.setCell ⟨s.d, 3, none⟩ (.int .i64 (-1))).setCell ⟨s.d, 4, none⟩ (.bool false)) (s' := s.reset) rfl rfl rfl
    ((blk_set (blk_set h.head 3 (.int .i64 (-1))) 4 (.bool false)).trans rfl) (fun k _ hk => by rw [Below.heap_setCell _ _ _ _ hk, Below.heap_setCell _ _ _ _ hk])
  refine ⟨h1, ⟨((Moved.refl _ w).setCell (.inl (.inl rfl)) _).setCell (.inl (.inl rfl)) _, h2⟩, ⟨⟨g.wf.size0, g.wf.size1, g.wf.room, g.wf.fast, ?_, ?_, g.wf.names, g.wf.sorted⟩, g.used⟩⟩
  · show (-1 : Int) ≤ -1; omega
  · show (-1 : Int) ≤ _; omega
theorem getF_mid {s : DiskM} (g : Good s) {X Y : List FileM} {f : FileM} (hL : s.L = X ++ f :: Y) : getF f.name s.L = some f := by
  have hs := g.wf.sorted
  rw [show s.abs.F = s.L.map absF from rfl, hL, List.pairwise_map] at hs
  obtain ⟨_, _, p3⟩ := List.pairwise_append.1 hs
  unfold getF
  rw [hL, List.find?_append, List.find?_eq_none.2 (fun x hx => by
    have h1 := p3 x hx f (by simp)
    intro e
    have e2 : x.name = f.name := by simpa using e
    have h2 : bytesBefore x.name f.name = true := h1
    rw [e2, bytesBefore_irrefl] at h2
    cases h2)]
  simp
theorem CrA.names {w2 wr W : World} {B : Nat} {s1 : DiskM} {keep : Int} {A0 C1 : List FileM} {f : FileM} {s' : DiskM} {v6 : Value} (Z : CrA w2 B s1 keep A0 (f :: C1) s' v6 wr) {An : Option Addr} {cn n : Nat} (hn : n = s1.L.length)
    (hrow : w2.ownsRow W.heap.size 9 1 (.slice An n cn) n (s1.L.map fun f => encStr f.name)) (hW : DiskIs W B s1) : ∃ gn, An = some ⟨gn, 0, none⟩ ∧ wr.cell? ⟨gn, A0.length, none⟩ = some (.string ⟨f.name.toArray⟩) := by
  have hpos : 0 < n := by rw [hn, Z.L, List.length_append, List.length_cons]; omega
  obtain ⟨gn, cap, he, hb, hlt⟩ := hrow.form hpos
  have hA : An = some ⟨gn, 0, none⟩ := by injection he
  subst hA
  refine ⟨gn, rfl, ?_⟩
  have hc := hrow.cells (g := gn) rfl A0.length (encStr f.name) (by rw [Z.L]; simp)
  rw [add_plain] at hc
  have hst : wr.heap[gn]? = w2.heap[gn]? := Z.step.moved.block gn hlt (fun hf => by have := (hW.foot hf).2; omega)
  exact (World.cell?_of_block (a := ⟨gn, A0.length, none⟩) hst).trans hc
theorem CrA.mem {w2 wr : World} {B : Nat} {s1 : DiskM} {keep : Int} {A0 C1 : List FileM} {f : FileM} {s' : DiskM} {v6 : Value} (Z : CrA w2 B s1 keep A0 (f :: C1) s' v6 wr) : f ∈ s'.L := by rw [Z.sL]; simp
theorem CrA.next {w2 wr : World} {B : Nat} {s1 : DiskM} {keep : Int} {A0 C1 : List FileM} {f : FileM} {s' : DiskM} {v6 : Value} (Z : CrA w2 B s1 keep A0 (f :: C1) s' v6 wr) (ht : isTorn (absF f) = false) (n : Nat) : CrA w2 B s1 keep (A0 ++ [f]) C1 s' v6 (wr.drewN n) := by
  have hc : cutM keep f = f := by unfold cutM; rw [ht]; rfl
  have htm : tornM (A0 ++ [f]) = tornM A0 := by unfold tornM; rw [List.filter_append]; simp [ht]
  refine ⟨by rw [Z.L]; simp, by rw [Z.sL]; simp [hc], Z.d, Z.m, Z.size, Z.calls, Z.out, Z.disk.drewN n, ⟨Z.step.moved.drewN n, Z.step.foot⟩, Z.good, ?_⟩
  rw [htm]
  exact Z.row
theorem CrA.cut {w2 wr wm w3 : World} {B n : Nat} {s1 : DiskM} {keep : Int} {A0 C1 : List FileM} {f : FileM} {s' : DiskM} {v6 v6' : Value} (Z : CrA w2 B s1 keep A0 (f :: C1) s' v6 wr) (hD1 : DiskIs w2 B s1) (ht : isTorn (absF f) = true) {m : Nat} (hm : m = keptN keep (absF f))
    {Af : Option Addr} {cf : Nat} (hv : f.v = .slice Af f.bs.length cf) (hcf : f.bs.length ≤ cf) (hwm : wm = ((wr.drewN n).setCell ⟨s1.d, 2, none⟩ (.int .i64 (s'.used - ((f.bs.length : Int) - m)))).setCell ⟨f.p, 0, none⟩ (.slice Af m m)) {o : Obj}
    (hgr : (wm.alloc o).grownBy w3 v6.ownBlock) (hrow : w3.ownsRow w2.heap.size 60 1 v6' ((tornM A0).map (·.p) ++ [f.p]).length (((tornM A0).map (·.p) ++ [f.p]).map ptrV)) :
    CrA w2 B s1 keep (A0 ++ [f]) C1 { s' with L := A0.map (cutM keep) ++ cutM keep f :: C1, used := s'.used - f.bs.length + (cutM keep f).bs.length } v6' w3 := by
  subst hwm
  have hM := Z.mem
  have hF := Z.disk.file f hM
  obtain ⟨b0, b1⟩ := bs_le Z.good hM
  obtain ⟨hm1, hm2, _⟩ := keptN_le (keep := keep) (f := absF f) b1
  rw [← hm] at hm1 hm2
  change f.fast ≤ m at hm1
  change m ≤ f.bs.length at hm2
  have hcut : cutM keep f = { f with v := .slice Af m m, bs := f.bs.take m } := by
    unfold cutM
    rw [ht, ← hm, hv]
    rfl
  have hlen : (f.bs.take m).length = m := by rw [List.length_take]; omega
  have hf1 : f ∈ s1.L := by rw [Z.L]; simp
  have hrow6 : ∀ k, v6.ownBlock = some k → w2.heap.size ≤ k := fun k hk => own_base Z.row k hk
  have hfoot1 : ∀ k, Foot20 s1 k → k < w2.heap.size := fun k hk => (hD1.foot hk).2
  have hnot : ∀ k, v6.ownBlock = some k → ¬ Foot20 s' k := fun k hk hf => by
    have h1 := hrow6 k hk
    rcases hf with rfl | rfl | ⟨g, hg, hg2⟩
    · have := hfoot1 s'.d (by rw [Z.d]; exact .inl rfl); omega
    · have := hfoot1 s'.m (by rw [Z.m]; exact .inr (.inl rfl)); omega
    · rw [Z.sL] at hg
      have hex : ∃ g0 ∈ s1.L, g.p = g0.p ∧ g.v.ownBlock = g0.v.ownBlock := by
        rcases List.mem_append.1 hg with hg | hg
        · obtain ⟨g0, hg0, rfl⟩ := List.mem_map.1 hg
          refine ⟨g0, by rw [Z.L]; simp [hg0], ?_⟩
          unfold cutM
          split
          · refine ⟨rfl, ?_⟩
            show (clipV g0.v _).ownBlock = _
            unfold clipV
            split
            · rename_i _ A _ _ he
              rw [he]
              cases A <;> rfl
            · rfl
          · exact ⟨rfl, rfl⟩
        · exact ⟨g, by rw [Z.L]; simp only [List.mem_append, hg, or_true], rfl, rfl⟩
      obtain ⟨g0, hg0, e1, e2⟩ := hex
      rcases hg2 with rfl | hg2
      · have := hfoot1 g.p (.inr (.inr ⟨g0, hg0, .inl e1⟩)); omega
      · have := hfoot1 k (.inr (.inr ⟨g0, hg0, .inr (by rw [← e2]; exact hg2)⟩)); omega
  have hds : s'.d = s1.d := Z.d
  have hdf : f.p ≠ s1.d := fun e => by have := Z.disk.df hM; rw [hds] at this; exact this e
  have hst : ∀ k, k < wr.heap.size → v6.ownBlock ≠ some k → w3.heap[k]? = (((wr.drewN n).setCell ⟨s1.d, 2, none⟩ (.int .i64 (s'.used - ((f.bs.length : Int) - m)))).setCell ⟨f.p, 0, none⟩ (.slice Af m m)).heap[k]? := fun k hk hn => by
    rw [hgr.block k (by simp [World.setCell]; omega) (fun e => hn e.symm)]
    exact Below.heap_alloc _ _ _ (by simpa [World.setCell] using hk)
  have hdlt : s1.d < wr.heap.size := by have := (Z.disk.foot (.inl rfl)).2; rw [hds] at this; exact this
  have hflt : f.p < wr.heap.size := (Z.disk.foot (.inr (.inr ⟨f, hM, .inl rfl⟩))).2
  have hnd : v6.ownBlock ≠ some s1.d := fun e => hnot _ e (by rw [← hds]; exact .inl rfl)
  have hnf : v6.ownBlock ≠ some f.p := fun e => hnot _ e (.inr (.inr ⟨f, hM, .inl rfl⟩))
  have hused : s'.used - ((f.bs.length : Int) - m) = s'.used - (f.bs.length : Int) + ((cutM keep f).bs.length : Int) := by
    rw [hcut]
    show _ = s'.used - (f.bs.length : Int) + ((f.bs.take m).length : Int)
    rw [hlen]
    omega
  have hup := OpDone.updX (w := w2) (w' := w3) (s := s1) (s' := { s' with L := A0.map (cutM keep) ++ cutM keep f :: C1, used := s'.used - f.bs.length + (cutM keep f).bs.length }) (fun k => v6.ownBlock = some k) hnot hrow6 Z.step hds Z.m Z.disk Z.good Z.sL (f' := cutM keep f) rfl (by rw [hcut]) (by rw [hcut])
    (by rw [hcut]; show f.fast ≤ (f.bs.take m).length; rw [hlen]; exact hm1) (by
      rw [hcut]
      show s'.used - (f.bs.length : Int) + ((f.bs.take m).length : Int) ≤ s'.size
      rw [hlen]
      have := Z.good.u1
      omega)
    (by
      rw [hds, hst _ hdlt hnd, Below.heap_setCell _ _ _ _ (fun e => hdf e.symm)]
      have hh := Z.disk.head
      rw [hds] at hh
      refine (blk_set (w := wr.drewN n) hh 2 _).trans ?_
      rw [hused]
      rfl)
    (by
      refine ⟨by rw [hcut]; exact hF.pB, ?_, ?_⟩
      · rw [hcut]
        show w3.heap[f.p]? = _
        rw [hst _ hflt hnf]
        have h1 : ((wr.drewN n).setCell ⟨s1.d, 2, none⟩ (.int .i64 (s'.used - ((f.bs.length : Int) - m)))).heap[f.p]? = _ := (Below.heap_setCell (wr.drewN n) ⟨s1.d, 2, none⟩ _ _ hdf).trans hF.head
        exact (blk_set h1 0 _).trans rfl
      · rw [hcut]
        have hr := hF.row
        rw [hv] at hr
        have hc := hr.cut m m hm2 (Nat.le_refl _) (by omega)
        refine hc.move fun k hk => ?_
        have hfk : f.v.ownBlock = some k := by
          rw [hv]
          cases Af with
          | none => simp [Value.ownBlock] at hk
          | some a => simpa [Value.ownBlock] using hk
        have hklt := (Z.disk.foot (.inr (.inr ⟨f, hM, .inr hfk⟩))).2
        rw [hst k hklt (fun e => hnot k e (.inr (.inr ⟨f, hM, .inr hfk⟩)))]
        rw [Below.heap_setCell _ _ _ _ (Z.disk.fr hM hM hfk), Below.heap_setCell _ _ _ _ (by show k ≠ s1.d; rw [← hds]; exact Z.disk.dr hM hfk)]
        rfl)
    (fun k hk => by
      rw [hcut] at hk
      refine .inl ?_
      rw [hv]
      cases Af with
      | none => simp [Value.ownBlock] at hk
      | some a => simpa [Value.ownBlock] using hk)
    (fun F hF => by
      refine Moved.grown (((((Moved.refl F wr).drewN n).setCell (.inl (hF _ (.inl hds.symm))) _).setCell (.inl (hF _ (.inr (.inl rfl)))) _).alloc o) hgr (fun k hk => .inl (hF k (.inr (.inr (.inr hk)))))) rfl
  refine ⟨by rw [Z.L]; simp, by simp, hds, Z.m, Z.size, Z.calls, Z.out, hup.disk, hup.step, hup.good, ?_⟩
  have htm : (tornM (A0 ++ [f])).map (·.p) = (tornM A0).map (·.p) ++ [f.p] := by unfold tornM; rw [List.filter_append]; simp [ht]
  have htl : (tornM (A0 ++ [f])).length = ((tornM A0).map (·.p) ++ [f.p]).length := by rw [← htm, List.length_map]
  rw [htm, htl]
  exact hrow
structure CrB (w4 : World) (B : Nat) (s4 s : DiskM) (keep : Int) (l : List Int) (u0 : Int) (A0 C0 A1 : List FileM) (t : DiskM) (wr : World) : Prop where
  L : s.L = A0 ++ C0
  tL : t.L = A1 ++ C0.map (cutM keep)
  fill : A1.map absF = fillL s.size l keep (A0.map absF) u0
  used : t.used = fillU s.size l (A0.map absF) u0
  d : t.d = s.d
  m : t.m = s.m
  size : t.size = s.size
  calls : t.calls = -1
  out : t.out = false
  disk : DiskIs wr B t
  step : StepD w4 s4 wr t
  good : Good t
theorem cut_still {keep : Int} : ∀ {D : List FileM}, (∀ g ∈ D, isTorn (absF g) = false) → D.map (cutM keep) = D
  | [], _ => rfl
  | f :: r, h => by
    have hf : cutM keep f = f := by unfold cutM; rw [h f (by simp)]; rfl
    rw [List.map_cons, hf, cut_still (fun g hg => h g (List.mem_cons_of_mem _ hg))]
theorem CrB.skip {w4 wr : World} {B : Nat} {s4 s t : DiskM} {keep : Int} {l : List Int} {u0 : Int} {A0 D E A1 : List FileM} (Z : CrB w4 B s4 s keep l u0 A0 (D ++ E) A1 t wr) (hD : ∀ g ∈ D, isTorn (absF g) = false) : CrB w4 B s4 s keep l u0 (A0 ++ D) E (A1 ++ D) t wr := by
  obtain ⟨h1, h2⟩ := fill_still s.size l keep (D.map absF) (fillU s.size l (A0.map absF) u0) (fun f hf => by obtain ⟨g, hg, rfl⟩ := List.mem_map.1 hf; exact hD g hg)
  refine ⟨by rw [Z.L]; simp, by rw [Z.tL, List.map_append, cut_still hD]; simp, ?_, ?_, Z.d, Z.m, Z.size, Z.calls, Z.out, Z.disk, Z.step, Z.good⟩
  · rw [List.map_append, List.map_append, fillL_append, h1, Z.fill]
  · rw [List.map_append, fillU_append, h2, Z.used]
theorem torn_split : ∀ {C0 : List FileM}, tornM C0 ≠ [] → ∃ D f E, C0 = D ++ f :: E ∧ (∀ g ∈ D, isTorn (absF g) = false) ∧ isTorn (absF f) = true
  | [], h => absurd rfl h
  | f :: r, h => by
    cases hf : isTorn (absF f) with
    | true => exact ⟨[], f, r, rfl, by simp, hf⟩
    | false =>
      have : tornM r ≠ [] := by unfold tornM at h ⊢; rw [List.filter_cons_of_neg (by simp [hf])] at h; exact h
      obtain ⟨D, g, E, h1, h2, h3⟩ := torn_split this
      exact ⟨f :: D, g, E, by rw [h1]; rfl, fun x hx => by rcases List.mem_cons.1 hx with rfl | hx; exact hf; exact h2 x hx, h3⟩
theorem torn_none {C0 : List FileM} (h : tornM C0 = []) : ∀ g ∈ C0, isTorn (absF g) = false := fun g hg => by
  cases ht : isTorn (absF g) with
  | false => rfl
  | true =>
    have : g ∈ tornM C0 := List.mem_filter.2 ⟨hg, ht⟩
    rw [h] at this
    cases this
theorem torn_still {D : List FileM} (h : ∀ g ∈ D, isTorn (absF g) = false) : tornM D = [] := List.filter_eq_nil_iff.2 fun g hg => by simp [h g hg]
theorem tornM_append (A C : List FileM) : tornM (A ++ C) = tornM A ++ tornM C := List.filter_append ..
theorem CrB.head {w4 wr : World} {B : Nat} {s4 s t : DiskM} {keep : Int} {l : List Int} {u0 : Int} {A0 C0 A1 : List FileM} (Z : CrB w4 B s4 s keep l u0 A0 C0 A1 t wr) (hk : (tornM A0).length < (tornM s.L).length) :
    ∃ A0' f E A1', CrB w4 B s4 s keep l u0 A0' (f :: E) A1' t wr ∧ isTorn (absF f) = true ∧ (tornM A0').length = (tornM A0).length ∧ ((tornM s.L).map (·.p))[(tornM A0).length]? = some f.p := by
  have hne : tornM C0 ≠ [] := fun e => by rw [Z.L, tornM_append, e] at hk; simp at hk
  obtain ⟨D, f, E, rfl, h2, h3⟩ := torn_split hne
  refine ⟨A0 ++ D, f, E, A1 ++ D, Z.skip h2, h3, by rw [tornM_append, torn_still h2]; simp, ?_⟩
  rw [Z.L, tornM_append, tornM_append, torn_still h2, List.nil_append]
  have : tornM (f :: E) = f :: tornM E := List.filter_cons_of_pos h3
  rw [this]
  simp
theorem src_take {w : World} {A : Option Addr} {l : List Int} {c m : Nat} (h : Kd.C (Kd.int .u8) w A l.length l) (hc : l.length ≤ c) (hm : m ≤ l.length) : Src Try.prog 1 22 (.slice A m c) (l.take m).length (nums .u8 (l.take m)) w := by
  have hl : (l.take m).length = m := by rw [List.length_take]; omega
  obtain ⟨h1, h2, h3⟩ := Kd.reads_of_C (d := (0 : Int)) h
  have hC : Kd.C (Kd.int .u8) w A (l.take m).length (l.take m) := by
    refine Kd.C_of_reads (d := (0 : Int)) ⟨rfl, by omega, fun hp => ?_⟩
    obtain ⟨ad, e, hcell⟩ := h3 (by omega)
    refine ⟨ad, e, fun j hj => ?_⟩
    rw [hcell j (by omega)]
    have hjm : j < m := by omega
    simp [List.getD_eq_getElem?_getD, List.getElem?_take, hjm]
  have := src_of_C (c := c) hC (by omega)
  rw [hl] at this ⊢
  exact this
theorem CrB.mem {w4 wr : World} {B : Nat} {s4 s t : DiskM} {keep : Int} {l : List Int} {u0 : Int} {A0 E A1 : List FileM} {f : FileM} (Z : CrB w4 B s4 s keep l u0 A0 (f :: E) A1 t wr) : cutM keep f ∈ t.L := by rw [Z.tL]; simp
theorem cutM_p (keep : Int) (f : FileM) : (cutM keep f).p = f.p := by unfold cutM; split <;> rfl
def fillM (keep : Int) (f : FileM) (A2 : Option Addr) (c2 m : Nat) (l : List Int) : FileM := { cutM keep f with v := .slice A2 ((cutM keep f).bs.length + m) c2, bs := (cutM keep f).bs ++ l.take m, fast := (cutM keep f).bs.length + m }
theorem CrB.next {w4 wr w5 : World} {B n : Nat} {s4 s t : DiskM} {keep : Int} {l : List Int} {u0 : Int} {A0 E A1 : List FileM} {f : FileM} (Z : CrB w4 B s4 s keep l u0 A0 (f :: E) A1 t wr) (ht : isTorn (absF f) = true) {m : Nat} (hm : min (l.length : Int) (t.size - t.used) = (m : Int))
    {A2 : Option Addr} {c2 : Nat} (hown : DRow w5 B (.slice A2 ((cutM keep f).bs.length + m) c2) ((cutM keep f).bs ++ l.take m)) (hgr : (wr.drewN n).grownBy w5 (cutM keep f).v.ownBlock) (hat : (Value.slice A2 ((cutM keep f).bs.length + m) c2).ownBlock = (cutM keep f).v.ownBlock ∨ (Value.slice A2 ((cutM keep f).bs.length + m) c2).ownBlock = some (wr.drewN n).heap.size) :
    ∃ A1' t', CrB w4 B s4 s keep l u0 (A0 ++ [f]) E A1' t' (((w5.setCell ⟨f.p, 0, none⟩ (.slice A2 ((cutM keep f).bs.length + m) c2)).setCell ⟨s.d, 2, none⟩ (.int .i64 (t.used + m))).setCell ⟨f.p, 1, none⟩ (.int .i64 ((cutM keep f).bs.length + m))) := by
  have hM := Z.mem
  have hF := Z.disk.file _ hM
  have hml : m ≤ l.length := by omega
  have hlen : (l.take m).length = m := by rw [List.length_take]; omega
  have hts : m = tailN s.size l t.used := by unfold tailN; rw [← Z.size, hm]; rfl
  have hfp := cutM_p keep f
  have hdf : (cutM keep f).p ≠ s.d := fun e => by have := Z.disk.df hM; rw [Z.d] at this; exact this e
  have hFr : ∀ k, k < wr.heap.size → (cutM keep f).v.ownBlock ≠ some k → w5.heap[k]? = wr.heap[k]? := fun k hk hn => hgr.block k hk (fun e => hn e.symm)
  have hp1 : w5.heap[(cutM keep f).p]? = wr.heap[(cutM keep f).p]? := hFr _ (Z.disk.foot (.inr (.inr ⟨_, hM, .inl rfl⟩))).2 (fun e => Z.disk.fr hM hM e rfl)
  have hd1 : w5.heap[s.d]? = wr.heap[s.d]? := by rw [← Z.d]; exact hFr _ (Z.disk.foot (.inl rfl)).2 (fun e => Z.disk.dr hM e rfl)
  rw [← hfp]
  have hup := OpDone.upd (w' := ((w5.setCell ⟨(cutM keep f).p, 0, none⟩ (.slice A2 ((cutM keep f).bs.length + m) c2)).setCell ⟨s.d, 2, none⟩ (.int .i64 (t.used + m))).setCell ⟨(cutM keep f).p, 1, none⟩ (.int .i64 ((cutM keep f).bs.length + m))) (StepD.refl wr t) rfl rfl Z.disk Z.good (L1 := A1) (L2 := E.map (cutM keep)) (f := cutM keep f) (by rw [Z.tL]; rfl) rfl
    (f' := fillM keep f A2 c2 m l) rfl rfl
    (by show (cutM keep f).bs.length + m ≤ ((cutM keep f).bs ++ l.take m).length; rw [List.length_append, hlen]; exact Nat.le_refl _)
    (by show t.used - ((cutM keep f).bs.length : Int) + (((cutM keep f).bs ++ l.take m).length : Int) ≤ t.size; rw [List.length_append, hlen]; omega)
    (by
      rw [Z.d, Below.heap_setCell _ _ _ _ (fun e => hdf e.symm)]
      have hh := Z.disk.head
      rw [Z.d] at hh
      have h2 : (w5.setCell ⟨(cutM keep f).p, 0, none⟩ (.slice A2 ((cutM keep f).bs.length + m) c2)).heap[s.d]? = _ := (Below.heap_setCell _ ⟨(cutM keep f).p, 0, none⟩ _ _ (fun e => hdf e.symm)).trans (hd1.trans hh)
      refine (blk_set h2 2 _).trans ?_
      have he : t.used + (m : Int) = t.used - ((cutM keep f).bs.length : Int) + (((cutM keep f).bs ++ l.take m).length : Int) := by rw [List.length_append, hlen]; omega
      rw [he]
      rfl)
    (by
      refine ⟨hF.pB, ?_, hown.move fun k hk => ?_⟩
      · have h1 : (w5.setCell ⟨(cutM keep f).p, 0, none⟩ (.slice A2 ((cutM keep f).bs.length + m) c2)).heap[(cutM keep f).p]? = _ := blk_set (hp1.trans hF.head) 0 _
        have h2 : ((w5.setCell ⟨(cutM keep f).p, 0, none⟩ (.slice A2 ((cutM keep f).bs.length + m) c2)).setCell ⟨s.d, 2, none⟩ (.int .i64 (t.used + m))).heap[(cutM keep f).p]? = _ := (Below.heap_setCell _ ⟨s.d, 2, none⟩ _ _ hdf).trans h1
        exact (blk_set h2 1 _).trans rfl
      · have h1 : k ≠ (cutM keep f).p ∧ k ≠ s.d := by
          rcases hat with h | h
          · rw [h] at hk
            exact ⟨Z.disk.fr hM hM hk, by rw [← Z.d]; exact Z.disk.dr hM hk⟩
          · rw [h] at hk
            have h2 := (Z.disk.foot (.inr (.inr ⟨_, hM, .inl rfl⟩))).2
            have h3 : s.d < wr.heap.size := by rw [← Z.d]; exact (Z.disk.foot (.inl rfl)).2
            have h4 : wr.heap.size = k := by injection hk
            exact ⟨fun e => by omega, fun e => by omega⟩
        rw [Below.heap_setCell _ _ _ _ h1.1, Below.heap_setCell _ _ _ _ h1.2, Below.heap_setCell _ _ _ _ h1.1])
    (fun k hk => by
      rcases hat with h | h
      · exact .inl (by rw [← h]; exact hk)
      · refine .inr ?_
        have h4 : wr.heap.size = k := by have := h.symm.trans hk; injection this
        omega)
    (fun F hF' => (((((Moved.refl F wr).drewN _).grown hgr (fun k hk => .inl (hF' k (.inr (.inr hk))))).setCell (.inl (hF' _ (.inr (.inl rfl)))) _).setCell (.inl (hF' _ (.inl Z.d.symm))) _).setCell (.inl (hF' _ (.inr (.inl rfl)))) _) rfl
  refine ⟨A1 ++ [fillM keep f A2 c2 m l], { t with L := A1 ++ fillM keep f A2 c2 m l :: E.map (cutM keep), used := t.used - (cutM keep f).bs.length + (fillM keep f A2 c2 m l).bs.length }, ⟨by rw [Z.L]; simp, ?_, ?_, ?_, Z.d, Z.m, Z.size, Z.calls, Z.out, hup.disk, Z.step.trans hup.step, hup.good⟩⟩
  · show A1 ++ _ :: _ = (A1 ++ [_]) ++ _
    simp
  · rw [List.map_append, List.map_append, fillL_append, Z.fill]
    congr 1
    show [_] = fillL s.size l keep [absF f] _
    simp only [fillL, ht, if_true]
    rw [← Z.used]
    unfold fillOne
    rw [← abs_cutM, ← hts]
    rfl
  · show t.used - _ + (((cutM keep f).bs ++ l.take m).length : Int) = _
    rw [List.map_append, fillU_append, ← Z.used]
    show _ = fillU s.size l [absF f] t.used
    simp only [fillU, ht, if_true]
    rw [← hts, List.length_append, hlen]
    omega
set_option maxRecDepth 100000 in
set_option maxHeartbeats 2000000 in
theorem crash_calls (w : World) (B : Nat) (s : DiskM) (h : DiskIs w B s) (g : Good s) (keep : Int) (hk1 : -9223372036854775808 ≤ keep) (hk2 : keep ≤ 9223372036854775807) (A : Option Addr) (c : Nat) (l : List Int) (hS : SrcIs w s A c l) (hN : s.L.length ≤ 2000000) :
    Calls Try.prog 11 #[.pointer (some ⟨s.d, 0, none⟩), .int .i64 keep, .slice A l.length c] w fun e w' => e = .returned (.tuple #[]) ∧ ∃ s', OpDone w B s (pCrash s.abs keep l) w' s' := by
  have k3 := h.c3
  have k4 := h.c4
  have f3 := h.fz 3
  have f4 := h.fz 4
  obtain ⟨r1, r2, r3⟩ := reset_calls h g
  have R1 := Aside0.mk r1
  have R2 := Aside0.mk r2
  have R3 := Aside0.mk r3
  have H := Aside0.mk h
  have G := Aside0.mk g
  have HSRC := Aside0.mk hS
  have HNN := Aside0.mk hN
  clear h g hS r1 r2 r3 hN
  go_enter Try.func11, Try.ntmps11
  go_wp2_with (
    go_at_call 23; refine (names_calls _ B s.reset R1.out R3.out HNN.out).mono ?_; rintro e w2 ⟨vn, rfl, hrow, hb⟩
    change w2.ownsRow _ _ _ vn s.L.length (s.L.map fun f => encStr f.name) at hrow
    obtain ⟨An, cn, hvn⟩ := own_slice hrow
    subst hvn
    have hD2 : DiskIs w2 B s.reset := R1.out.below hb
    have hS2 : StepD w s w2 s.reset := R2.out.trans ⟨Moved.of_below hb, fun k hk => .inl hk⟩
    have D2 := Aside0.mk hD2; have S2 := Aside0.mk hS2
    have HROW := Aside0.mk hrow; have HB2 := Aside0.mk hb
    clear hrow hb hD2 hS2)
  have hnlen : s.L.length ≤ 2000000 := HNN.out
  go_loopw [6, 24] (fun v6 i wr => ∃ (A0 C0 : List FileM) (s' : DiskM), i = .int .i64 A0.length ∧ Aside0 (CrA w2 B s.reset keep A0 C0 s' v6 wr)) (fun _ i _ => s.L.length - (intOf i).toNat)
  case atStart => exact ⟨[], s.L, s.reset, rfl, ⟨rfl, rfl, rfl, rfl, rfl, rfl, rfl, D2.out, StepD.refl _ _, R3.out, own_nil _ _ _ _⟩⟩
  case round =>
    obtain ⟨A0, C0, s', rfl, hCR⟩ := hrel
    cases C0 with
    | nil =>
      have hA0 : s.L = A0 := by have h1 : s.L = A0 ++ [] := hCR.out.L; rw [List.append_nil] at h1; exact h1
      subst hA0
      have hrow6 := hCR.out.row
      obtain ⟨At, ct, hv6⟩ := own_slice hrow6
      subst hv6
      have HR6 := Aside0.mk hrow6
      have hS4 : SrcIs wr s' A c l := HSRC.out.step (S2.out.trans hCR.out.step)
      have HS4 := Aside0.mk hS4
      have hc1 := hS4.cap
      have hl1 := hS4.len
      have htl : (tornM s.L).length ≤ 2000000 := by
        have h1 : (tornM s.L).length ≤ s.L.length := List.length_filter_le _ _
        omega
      have hB4 : Aside0 (CrB wr B s' s keep l (total (s.abs.F.map (tear keep))) [] s.L [] s' wr) := by
        have hsL : s'.L = s.L.map (cutM keep) := by have := hCR.out.sL; rw [List.append_nil] at this; exact this
        have hab : s'.abs.F = s.abs.F.map (tear keep) := by
          show s'.L.map absF = (s.L.map absF).map (tear keep)
          rw [hsL, List.map_map, List.map_map]
          exact List.map_congr_left fun f _ => abs_cutM keep f
        exact ⟨rfl, hsL, rfl, by show s'.used = total _; rw [hCR.out.good.used, hab], hCR.out.d, hCR.out.m, hCR.out.size, hCR.out.calls, hCR.out.out, hCR.out.disk, StepD.refl _ _, hCR.out.good⟩
      have hfootr : ∀ k, (Value.slice At (tornM s.L).length ct).ownBlock = some k → k < wr.heap.size ∧ ¬ Foot20 s' k := fun k hk => by
        refine ⟨own_lt hrow6 k hk, fun hf => ?_⟩
        have h1 := own_base hrow6 k hk
        have hsL : s'.L = s.L.map (cutM keep) := by have := hCR.out.sL; rw [List.append_nil] at this; exact this
        rcases hf with rfl | rfl | ⟨g, hg, hg2⟩
        · have := (D2.out.foot (k := s'.d) (by rw [hCR.out.d]; exact .inl rfl)).2; omega
        · have := (D2.out.foot (k := s'.m) (by rw [hCR.out.m]; exact .inr (.inl rfl))).2; omega
        · rw [hsL] at hg
          obtain ⟨g0, hg0, rfl⟩ := List.mem_map.1 hg
          rcases hg2 with rfl | hg2
          · have := (D2.out.foot (k := (cutM keep g0).p) (.inr (.inr ⟨g0, hg0, .inl (by unfold cutM; split <;> rfl)⟩))).2; omega
          · have := (D2.out.foot (k := k) (.inr (.inr ⟨g0, hg0, .inr (by
              rw [← hg2]
              unfold cutM
              split
              · show _ = (clipV g0.v _).ownBlock
                unfold clipV
                split
                · rename_i _ A _ _ he
                  rw [he]
                  cases A <;> rfl
                · rfl
              · rfl)⟩))).2; omega
      have HFR := Aside0.mk hfootr
      clear hrow6 hS4 hfootr
      obtain ⟨wo, rfl⟩ : ∃ wo : World, wo = wr := ⟨_, rfl⟩
      go_wp2
      go_loopw [86] (fun i wx => ∃ (A0 C0 A1 : List FileM) (t : DiskM), i = .int .i64 (tornM A0).length ∧ Aside0 (CrB wo B s' s keep l (total (s.abs.F.map (tear keep))) A0 C0 A1 t wx)) (fun i _ => (tornM s.L).length - (intOf i).toNat)
      case atStart => exact ⟨[], s.L, [], s', rfl, hB4⟩
      case round =>
        obtain ⟨A0, C0, A1, t, rfl, hCB⟩ := hrel
        by_cases hlt : (tornM A0).length < (tornM s.L).length
        · obtain ⟨A0', f, E, A1', hZ, ht, hl', hp⟩ := hCB.out.head hlt
          have hpos : 0 < (tornM s.L).length := by omega
          obtain ⟨gt, cap, he, hbg, hltg⟩ := HR6.out.form hpos
          have hAt : At = some ⟨gt, 0, none⟩ := by injection he
          subst hAt
          have hst : wr.heap[gt]? = wo.heap[gt]? := hZ.step.moved.block gt hltg (HFR.out gt rfl).2
          have hcl := HR6.out.cells (g := gt) rfl (tornM A0).length (ptrV f.p) (by rw [List.getElem?_map, hp]; rfl)
          rw [add_plain] at hcl
          have hcell : wr.cell? ⟨gt, (tornM A0).length, none⟩ = some (.pointer (some ⟨f.p, 0, none⟩)) := (World.cell?_of_block (a := ⟨gt, (tornM A0).length, none⟩) hst).trans hcl
          have hM := hZ.mem
          have hD := hZ.disk
          have hF := hD.file _ hM
          have q1 : wr.cell? ⟨s.d, 1, none⟩ = some (.int .i64 t.size) := by have := hD.c1; rw [hZ.d] at this; exact this
          have q2 : wr.cell? ⟨s.d, 2, none⟩ = some (.int .i64 t.used) := by have := hD.c2; rw [hZ.d] at this; exact this
          have q3 : wr.frozen? ⟨s.d, 2, none⟩ = false := by have := hD.fz 2; rw [hZ.d] at this; exact this
          obtain ⟨Af, cf, hv, hcf, hcm⟩ := hF.row.slice
          have HV := Aside0.mk hv
          have f0 := hF.c0
          rw [hv, cutM_p] at f0
          have f1 := hF.c1
          rw [cutM_p] at f1
          have f2 := hF.fz 0
          rw [cutM_p] at f2
          obtain ⟨b0, b1⟩ := bs_le hZ.good hM
          have b2 := hZ.good.u1
          have b3 := hZ.good.s1
          have b4 := hZ.good.u0
          obtain ⟨m, hkn⟩ : ∃ m : Nat, min (l.length : Int) (t.size - t.used) = (m : Int) := ⟨(min (l.length : Int) (t.size - t.used)).toNat, by omega⟩
          have HKN := Aside0.mk hkn
          have hmI : (m : Int) ≤ l.length := by omega
          have hmU : (m : Int) ≤ t.size - t.used := by omega
          have hmN : m ≤ l.length := by omega
          have HZ := Aside0.mk hZ
          have HT := Aside0.mk ht
          have HLL := Aside0.mk hl'
          have hsrc : SrcIs wr t A c l := HS4.out.step hZ.step
          have HSX := Aside0.mk hsrc
          obtain ⟨bl, hbl⟩ : ∃ bl, bl = (cutM keep f).bs.length := ⟨_, rfl⟩
          have hdf : ¬ s.d = f.p := fun e => by have := hD.df hM; rw [hZ.d, cutM_p] at this; exact this e.symm
          have hfd : ¬ f.p = s.d := fun e => hdf e.symm
          rw [← hbl] at f0 hcf b0 b1
          have HBL := Aside0.mk hbl
          clear hZ ht hp hl' hst hcl hM hD hF hv hsrc he hbl
          go_wp2
          go_region
          clear hkn
          go_wp2_with (
            at_builtin; refine wpList_append_d rfl _ _ rfl B (cutM keep f).v (cutM keep f).bs (l.take m) (by rw [HV.out, ← HBL.out]; rfl) ((HZ.out.disk.drewN _).file _ HZ.out.mem).row (.slice A m c) rfl (src_take (Kd.C_drewN HSX.out.reads _) HSX.out.cap hmN) (by rw [← HBL.out]; have h9 : (l.take m).length ≤ m := List.length_take_le _ _; omega) (HZ.out.disk.drewN _).le ?_
            intro v2 w5 hown hgr hat
            obtain ⟨A2, c2, hv2, hc2, -⟩ := hown.slice
            have hlen : ((cutM keep f).bs ++ l.take m).length = bl + m := by rw [List.length_append, List.length_take, ← HBL.out]; omega
            rw [hlen] at hv2 hc2
            subst hv2
            have hM := HZ.out.mem
            have hFr : ∀ k, k < wr.heap.size → (cutM keep f).v.ownBlock ≠ some k → w5.heap[k]? = wr.heap[k]? := fun k hk hn => hgr.block k hk (fun e => hn e.symm)
            have hp1 : w5.heap[f.p]? = wr.heap[f.p]? := by rw [← cutM_p keep f]; exact hFr _ (HZ.out.disk.foot (.inr (.inr ⟨_, hM, .inl rfl⟩))).2 (fun e => HZ.out.disk.fr hM hM e rfl)
            have hd1 : w5.heap[s.d]? = wr.heap[s.d]? := by rw [← HZ.out.d]; exact hFr _ (HZ.out.disk.foot (.inl rfl)).2 (fun e => HZ.out.disk.dr hM e rfl)
            have z0 : w5.cell? ⟨f.p, 0, none⟩ = some (.slice Af bl cf) := (World.cell?_of_block (a := ⟨f.p, 0, none⟩) hp1).trans f0
            have z1 : w5.cell? ⟨f.p, 1, none⟩ = some (.int .i64 ((cutM keep f).fast : Int)) := (World.cell?_of_block (a := ⟨f.p, 1, none⟩) hp1).trans f1
            have hfz : ∀ j, w5.frozen? ⟨f.p, j, none⟩ = false := fun j => (World.frozen?_of_block (a := ⟨f.p, j, none⟩) hp1).trans (by rw [← cutM_p keep f]; exact (HZ.out.disk.file _ hM).fz j)
            have z2 := hfz 0
            have z3 := hfz 1
            have z4 : w5.cell? ⟨s.d, 2, none⟩ = some (.int .i64 t.used) := (World.cell?_of_block (a := ⟨s.d, 2, none⟩) hd1).trans q2
            have z5 : w5.frozen? ⟨s.d, 2, none⟩ = false := (World.frozen?_of_block (a := ⟨s.d, 2, none⟩) hd1).trans q3
            have HO := Aside0.mk hown; have HG := Aside0.mk hgr; have HAT := Aside0.mk hat
            clear hown hgr hat hlen hM hFr hp1 hd1 hfz)
          go_roundw
          case rel =>
            obtain ⟨A1', t', hZ'⟩ := HZ.out.next HT.out HKN.out (by rw [← HBL.out]; exact HO.out) HG.out (by rw [← HBL.out]; exact HAT.out)
            rw [← HBL.out] at hZ'
            have hk2 : (tornM (A0' ++ [f])).length = (tornM A0).length + 1 := by
              rw [tornM_append, List.length_append, HLL.out]
              have : tornM [f] = [f] := List.filter_cons_of_pos HT.out
              rw [this]
              rfl
            exact ⟨A0' ++ [f], E, A1', t', by rw [hk2]; simp, ⟨hZ'⟩⟩
          case measure => simp [intOf]; omega
        · have hC0 : tornM C0 = [] := by
            have h1 := congrArg List.length (congrArg tornM hCB.out.L)
            rw [tornM_append, List.length_append] at h1
            exact List.length_eq_zero_iff.1 (by omega)
          have hk : (tornM A0).length = (tornM s.L).length := by
            have h1 := congrArg List.length (congrArg tornM hCB.out.L)
            rw [tornM_append, List.length_append, hC0] at h1
            simpa using h1.symm
          have HC0 := Aside0.mk hC0
          rw [hk]
          clear hC0 hk hlt
          go_wp2
          go_end0
          have hZ := CrB.skip (E := []) (D := C0) (by rw [List.append_nil]; exact hCB.out) (torn_none HC0.out)
          refine ⟨rfl, t, hCB.out.disk, (S2.out.trans hCR.out.step).trans hCB.out.step, hCB.out.good, ?_, hCB.out.d, hCB.out.m⟩
          have e1 : t.L = A1 ++ C0 := by have := hZ.tL; rw [List.map_nil, List.append_nil] at this; exact this
          have e2 : s.L = A0 ++ C0 := hCB.out.L
          show (⟨t.L.map absF, t.size, t.calls, t.out⟩ : PD) = _
          rw [hCB.out.size, hCB.out.calls, hCB.out.out]
          unfold pCrash
          have e3 : t.L.map absF = fillL s.size l keep s.abs.F (total (s.abs.F.map (tear keep))) := by
            rw [e1, hZ.fill]
            show _ = fillL s.size l keep (s.L.map absF) _
            rw [e2]
          rw [e3]
          rfl
    | cons f C1 =>
      have hL : s.L = A0 ++ f :: C1 := hCR.out.L
      have hlt : A0.length < s.L.length := by rw [hL]; simp
      obtain ⟨gn, rfl, hname⟩ := hCR.out.names rfl HROW.out R1.out
      have hM := hCR.out.mem
      have hD := hCR.out.disk
      have hF := hD.file f hM
      have q0 : wr.cell? ⟨s.d, 0, none⟩ = some (.map (some s.m)) := by have := hD.c0; rw [hCR.out.d, hCR.out.m] at this; exact this
      have q2 : wr.cell? ⟨s.d, 2, none⟩ = some (.int .i64 s'.used) := by have := hD.c2; rw [hCR.out.d] at this; exact this
      have q3 : wr.frozen? ⟨s.d, 2, none⟩ = false := by have := hD.fz 2; rw [hCR.out.d] at this; exact this
      obtain ⟨Af, cf, hv, hcf, hcm⟩ := hF.row.slice
      have HV := Aside0.mk hv
      have f0 := hF.c0
      rw [hv] at f0
      have f1 := hF.c1
      have f2 := hF.fz 0
      have hgf := getF_mid hCR.out.good hCR.out.sL
      have hnm : nameOk f.name = true := hCR.out.good.wf.names (absF f) (List.mem_map.2 ⟨f, hM, rfl⟩)
      have hn32 : f.name.length ≤ 32 := by
        rw [nameOk_eq] at hnm
        simp only [Bool.and_eq_true, decide_eq_true_eq] at hnm
        exact hnm.2.2
      have hlook : (Instr.lookup 56 (.map (some s.m)) (.string ⟨f.name.toArray⟩) false).run Try.prog wr = .ok (.pointer (some ⟨f.p, 0, none⟩)) wr := by
        have := look_at hD ⟨f.name.toArray⟩ (by show f.name.toArray.size ≤ maxLen; simp; unfold maxLen; omega)
        rw [show (⟨f.name.toArray⟩ : ByteArray).data.toList = f.name by simp, hgf, hCR.out.m] at this
        exact this
      obtain ⟨b0, b1⟩ := bs_le hCR.out.good hM
      have b2 := hCR.out.good.u1
      have b3 := hCR.out.good.s1
      have HL := Aside0.mk hL
      have HF := Aside0.mk hF
      have HM := Aside0.mk hM
      clear hL hM hD hF hv hgf hnm hn32
      cases ht : isTorn (absF f) with
      | false =>
        have ht0 : ((f.bs.length : Int) - (f.fast : Int) == 0) = true := by
          have : f.bs.length = f.fast := by
            unfold isTorn at ht
            simp only [Bool.not_eq_false', decide_eq_true_eq] at ht
            exact ht
          rw [this]; simp
        have HT := Aside0.mk ht
        clear ht
        go_wp2
        go_quiet (fail)
        go_wp2
        go_roundw
        case rel => exact ⟨A0 ++ [f], C1, s', by simp, ⟨hCR.out.next HT.out _⟩⟩
        case measure => simp [intOf]; omega
      | true =>
        have hne : f.bs.length ≠ f.fast := by
          unfold isTorn at ht
          simp only [Bool.not_eq_true', decide_eq_false_iff_not] at ht
          exact ht
        have ht0 : ((f.bs.length : Int) - (f.fast : Int) == 0) = false := beq_eq_false_iff_ne.2 (by omega)
        have hrest : (f.fast : Int) < f.bs.length := by omega
        have HT := Aside0.mk ht
        clear ht hne
        obtain ⟨m, hme⟩ : ∃ m, m = keptN keep (absF f) := ⟨_, rfl⟩
        obtain ⟨hm1, hm2, hm3⟩ := keptN_le (keep := keep) (f := absF f) b1
        rw [← hme] at hm1 hm2 hm3
        have hkn : (f.fast : Int) + min (max keep 0) ((f.bs.length : Int) - f.fast) = (m : Int) := hm3.symm
        have hm1' : f.fast ≤ m := hm1
        have hm2' : m ≤ f.bs.length := hm2
        have HME := Aside0.mk hme
        have hmI : (m : Int) ≤ f.bs.length := by omega
        have q2' : ∀ n, (wr.drewN n).cell? ⟨s.d, 2, none⟩ = some (.int .i64 s'.used) := fun n => q2
        have hdf : ¬ s.d = f.p := fun e => by have := hCR.out.disk.df HM.out; rw [hCR.out.d] at this; exact this e.symm
        have hfd : ¬ f.p = s.d := fun e => hdf e.symm
        clear hm1 hm2 hm3 hme
        go_wp2
        go_quiet (fail)
        go_wp2
        clear hkn
        have hrow6 := hCR.out.row
        have hwz : w2.heap.size ≤ wr.heap.size := hCR.out.step.moved.size
        have HR6 := Aside0.mk (And.intro hrow6 hwz)
        have hf1 : f ∈ s.L := by rw [HL.out]; simp
        have hfp2 : f.p < w2.heap.size := (D2.out.foot (.inr (.inr ⟨f, hf1, .inl rfl⟩))).2
        have hd2 : s.d < w2.heap.size := (D2.out.foot (.inl rfl)).2
        have HX := Aside0.mk (And.intro hfp2 hd2)
        have htl : (tornM A0).length ≤ 3000000 := by
          have h1 : (tornM A0).length ≤ A0.length := List.length_filter_le _ _
          omega
        have HTL := Aside0.mk htl
        clear hrow6 hwz hf1 hfp2 hd2 htl
        go_region
        go_wp2_with (
          at_builtin; refine wpList_append_p rfl _ _ rfl w2.heap.size u6 ((tornM A0).map (·.p)) rfl ?c1 f.p wr.heap.size rfl (new_at (by simp [World.setCell]) _) (by rw [List.length_map]; exact HTL.out) ?c2 ?_
          (case c1 => (rw [List.length_map]; exact (((own_move HR6.out.1 (fun k hk => by
              have hb := own_base HR6.out.1 k hk
              have h2 := HX.out
              rw [Below.heap_setCell _ _ _ _ (by show k ≠ f.p; omega), Below.heap_setCell _ _ _ _ (by show k ≠ s.d; omega)]
              rfl)).alloc _))))
          (case c2 => (have := HR6.out.2; simp [World.setCell]; omega))
          intro v6' w3 hown3 hgr3 hat3
          have HZ := Aside0.mk (And.intro hown3 hgr3)
          clear hown3 hgr3 hat3)
        go_roundw
        case rel => exact ⟨A0 ++ [f], C1, _, by simp, ⟨hCR.out.cut D2.out HT.out HME.out HV.out hcf rfl HZ.out.2 HZ.out.1⟩⟩
        case measure => simp [intOf]; omega
end Go.Proofs.Ytlbeehefandfhaa.Pr
end
section
namespace Go.Proofs.Ytlbeehefandfhaa.Pr
open Go.RowKit Go.Maps Go.Sort Go.Proofs.YtlbeehefandfhaaW.PrintWords Go.Proofs.YtlbeehefandfhaaW.PrintLast Go.Proofs.YtlbeehefandfhaaW.PrintMore
structure NewDone (w : World) (size : Int) (w' : World) (s : DiskM) : Prop where
  disk : DiskIs w' w.heap.size s
  good : Good s
  abs : s.abs = ⟨[], size, -1, false⟩
  below : Below w.heap.size w w'
theorem new_disk (w : World) (size : Int) (h0 : 0 ≤ size) (h1 : size ≤ 67108864) :
    NewDone w size ((w.alloc (.map #[] 0)).alloc (.cells #[.map (some w.heap.size), .int .i64 size, .int .i64 0, .int .i64 (-1), .bool false] 58)) ⟨w.heap.size + 1, w.heap.size, [], size, 0, -1, false⟩ := by
  refine ⟨⟨by show w.heap.size ≤ w.heap.size + 1; omega, Nat.le_refl _, ?_, ?_, (fun f hf => by cases hf), List.Pairwise.nil⟩, ⟨⟨h0, h1, h0, (fun f hf => by cases hf), (by show (-1 : Int) ≤ -1; omega), (by show (-1 : Int) ≤ 9223372036854775807; omega), (fun f hf => by cases hf), List.Pairwise.nil⟩, rfl⟩, rfl, ?_⟩
  · have := heap_alloc_new (w.alloc (.map #[] 0)) (.cells #[.map (some w.heap.size), .int .i64 size, .int .i64 0, .int .i64 (-1), .bool false] 58)
    rw [show (w.alloc (.map #[] 0)).heap.size = w.heap.size + 1 by simp] at this
    exact this
  · exact (World.ownsMap_made w Try.prog 9 ptrE).alloc _
  · exact ((Below.refl _ w).alloc (Nat.le_refl _) _).alloc (by simp) _
theorem new_calls (w : World) (size : Int) (h0 : 0 ≤ size) (h1 : size ≤ 67108864) :
    Calls Try.prog 7 #[.int .i64 size] w fun e w' => ∃ s, e = .returned (.tuple #[.pointer (some ⟨s.d, 0, none⟩), .int .i64 0]) ∧ NewDone w size w' s := by
  have hmm := @run_makeMap Try.prog
  have hd1 : ¬ size < 0 := by omega
  have hd2 : ¬ 67108864 < size := by omega
  have HN := Aside0.mk (new_disk w size h0 h1)
  go_enter Try.func7, Try.ntmps7
  go_wp2
  go_ret2
  exact ⟨_, rfl, HN.out⟩
theorem new_refused (w : World) (size : Int) (h : size < 0 ∨ 67108864 < size) :
    Calls Try.prog 7 #[.int .i64 size] w fun e w' => e = .returned (.tuple #[.pointer none, .int .i64 1]) ∧ w = w' := by
  by_cases hd1 : size < 0
  · clear h
    go_enter Try.func7, Try.ntmps7
    go_wp2
    go_ret2
    exact ⟨rfl, rfl⟩
  · have hd2 : 67108864 < size := by omega
    clear h
    go_enter Try.func7, Try.ntmps7
    go_wp2
    go_ret2
    exact ⟨rfl, rfl⟩
end Go.Proofs.Ytlbeehefandfhaa.Pr
end
section
namespace Go.Proofs.Ytlbeehefandfhaa.Pr
open Go.RowKit Go.Maps Go.Sort Go.Proofs.YtlbeehefandfhaaW.PrintWords Go.Proofs.YtlbeehefandfhaaW.PrintLast Go.Proofs.YtlbeehefandfhaaW.PrintMore
def DiskAt (w0 : World) (p : PD) (d : Nat) (w : World) : Prop := ∃ s, DiskIs w w0.heap.size s ∧ Good s ∧ s.abs = p ∧ s.d = d ∧ Below w0.heap.size w0 w
theorem DiskAt.below {w0 w w' : World} {p : PD} {d : Nat} (h : DiskAt w0 p d w) (hb : Below w.heap.size w w') : DiskAt w0 p d w' := by
  obtain ⟨s, h1, h2, h3, h4, h5⟩ := h
  exact ⟨s, h1.below hb, h2, h3, h4, h5.trans (hb.mono h1.le)⟩
theorem DiskAt.of_new {w0 w w' : World} {size : Int} {s : DiskM} (hb : Below w0.heap.size w0 w) (h : NewDone w size w' s) : DiskAt w0 ⟨[], size, -1, false⟩ s.d w' := by
  refine ⟨s, ?_, h.good, h.abs, rfl, hb.trans (h.below.mono hb.size)⟩
  have := h.disk
  have hs := hb.size
  refine ⟨Nat.le_trans hs this.dB, Nat.le_trans hs this.mB, this.head, this.map, fun f hf => ?_, this.apart⟩
  have h0 : s.abs.F = s.L.map absF := rfl
  rw [h.abs] at h0
  have h1 : s.L = [] := by simpa using h0.symm
  rw [h1] at hf
  cases hf
theorem DiskAt.done {w0 W w w' : World} {q : PD} {d : Nat} {s s' : DiskM} (h1 : DiskIs W w0.heap.size s) (h4 : s.d = d) (h5 : Below w0.heap.size w0 W) (hb : Below W.heap.size W w) (h : OpDone w w0.heap.size s q w' s') : DiskAt w0 q d w' :=
  ⟨s', h.disk, h.good, h.abs, h.d.trans h4, (h5.trans (hb.mono h1.le)).trans (h.step.below (h1.below hb))⟩
structure Young (W w : World) (A : Option Addr) (c : Nat) (l : List Int) : Prop where
  reads : Kd.C (Kd.int .u8) w A l.length l
  cap : l.length ≤ c
  at_ : ∀ a, A = some a → W.heap.size ≤ a.block ∧ a.block < w.heap.size
theorem Young.src {W w : World} {B : Nat} {s : DiskM} {A : Option Addr} {c : Nat} {l : List Int} (h : Young W w A c l) (hD : DiskIs W B s) : SrcIs w s A c l :=
  ⟨h.reads, h.cap, fun a ha hf => by have h1 := (hD.foot hf).2; have h2 := (h.at_ a ha).1; omega, fun a ha => (h.at_ a ha).2⟩
theorem Young.made (W : World) (l : List Int) (h1 : l.length ≤ 1000) (fr : Nat × Nat) : Young W (W.alloc (.cells (nums .u8 l).toArray 5 fr)) (some ⟨W.heap.size, 0, none⟩) l.length l := by
  refine ⟨Kd.C_of_reads (d := (0 : Int)) ⟨rfl, by omega, fun _ => ⟨_, rfl, fun j hj => ?_⟩⟩, Nat.le_refl _, fun a ha => ?_⟩
  · rw [add_plain, cell_of_row _ W.heap.size j _ _ _ (heap_alloc_new W _)]
    simp [nums, List.getD_eq_getElem?_getD, List.getElem?_eq_getElem hj]
  · injection ha with ha
    subst ha
    exact ⟨Nat.le_refl _, by simp⟩
theorem Young.row {W w : World} {A : Option Addr} {n c : Nat} {l : List Int} (h : DRow w W.heap.size (.slice A n c) l) : Young W w A c l := by
  obtain ⟨hn, hC⟩ := h.reads
  obtain ⟨A', c', he, h1, _⟩ := h.slice
  injection he with ha _ hc
  subst ha; subst hc
  exact ⟨hC, h1, fun a ha => by have := h.typed a.block (by rw [ha]; rfl); exact ⟨this.1, this.2.1⟩⟩
theorem append_at {w0 W w : World} {p : PD} {d : Nat} (h : DiskAt w0 p d W) (hb : Below W.heap.size W w) (nm : ByteArray) (hs : nm.size ≤ maxLen) (A : Option Addr) (c : Nat) (l : List Int) (hY : Young W w A c l) (hN : p.F.length ≤ 1000000) :
    Calls Try.prog 9 #[.pointer (some ⟨d, 0, none⟩), .string nm, .slice A l.length c] w fun e w' => e = .returned (.int .i64 (pAppend p nm.data.toList l).2) ∧ DiskAt w0 (pAppend p nm.data.toList l).1 d w' := by
  obtain ⟨s, h1, h2, h3, h4, h5⟩ := h
  have hL : s.L.length ≤ 1000000 := by rw [← h3] at hN; simpa [DiskM.abs] using hN
  subst h4
  rw [← h3]
  exact (append_calls w w0.heap.size s (h1.below hb) h2 nm hs A c l (hY.src h1) hL).mono fun e w' ⟨he, s', hO⟩ => ⟨he, DiskAt.done h1 rfl h5 hb hO⟩
theorem sync_at {w0 w : World} {p : PD} {d : Nat} (h : DiskAt w0 p d w) (nm : ByteArray) (hs : nm.size ≤ maxLen) :
    Calls Try.prog 10 #[.pointer (some ⟨d, 0, none⟩), .string nm] w fun e w' => e = .returned (.int .i64 (pSync p nm.data.toList).2) ∧ DiskAt w0 (pSync p nm.data.toList).1 d w' := by
  obtain ⟨s, h1, h2, h3, h4, h5⟩ := h
  subst h4
  rw [← h3]
  exact (sync_calls w w0.heap.size s h1 h2 nm hs).mono fun e w' ⟨he, s', hO⟩ => ⟨he, DiskAt.done h1 rfl h5 (Below.refl _ _) hO⟩
theorem crash_at {w0 W w : World} {p : PD} {d : Nat} (h : DiskAt w0 p d W) (hb : Below W.heap.size W w) (keep : Int) (hk1 : -9223372036854775808 ≤ keep) (hk2 : keep ≤ 9223372036854775807) (A : Option Addr) (c : Nat) (l : List Int) (hY : Young W w A c l) (hN : p.F.length ≤ 1000000) :
    Calls Try.prog 11 #[.pointer (some ⟨d, 0, none⟩), .int .i64 keep, .slice A l.length c] w fun e w' => e = .returned (.tuple #[]) ∧ DiskAt w0 (pCrash p keep l) d w' := by
  obtain ⟨s, h1, h2, h3, h4, h5⟩ := h
  have hL : s.L.length ≤ 2000000 := by have : s.L.length ≤ 1000000 := by rw [← h3] at hN; simpa [DiskM.abs] using hN
                                       omega
  subst h4
  rw [← h3]
  exact (crash_calls w w0.heap.size s (h1.below hb) h2 keep hk1 hk2 A c l (hY.src h1) hL).mono fun e w' ⟨he, s', hO⟩ => ⟨he, DiskAt.done h1 rfl h5 hb hO⟩
theorem read_at {w0 w : World} {p : PD} {d : Nat} (h : DiskAt w0 p d w) (nm : ByteArray) (hs : nm.size ≤ maxLen) :
    Calls Try.prog 12 #[.pointer (some ⟨d, 0, none⟩), .string nm] w fun e w' => ∃ v, e = .returned (.tuple #[v, .bool (pRead p nm.data.toList).2]) ∧ DRow w' w.heap.size v (pRead p nm.data.toList).1 ∧ DiskAt w0 p d w' := by
  have h' := h
  obtain ⟨s, h1, h2, h3, h4, h5⟩ := h
  subst h4
  rw [← h3] at h' ⊢
  exact (read_calls w w0.heap.size s h1 h2 nm hs).mono fun e w' ⟨v, he, hr, hb⟩ => ⟨v, he, hr, h'.below hb⟩
theorem fast_at {w0 w : World} {p : PD} {d : Nat} (h : DiskAt w0 p d w) (nm : ByteArray) (hs : nm.size ≤ maxLen) :
    Calls Try.prog 13 #[.pointer (some ⟨d, 0, none⟩), .string nm] w fun e w' => e = .returned (.int .i64 (pFast p nm.data.toList)) ∧ w = w' := by
  obtain ⟨s, h1, h2, h3, h4, h5⟩ := h
  subst h4
  rw [← h3]
  exact fast_calls w w0.heap.size s h1 nm hs
theorem used_at {w0 w : World} {p : PD} {d : Nat} (h : DiskAt w0 p d w) :
    Calls Try.prog 15 #[.pointer (some ⟨d, 0, none⟩)] w fun e w' => e = .returned (.int .i64 (total p.F)) ∧ w = w' := by
  obtain ⟨s, h1, h2, h3, h4, h5⟩ := h
  subst h4
  rw [← h3, ← h2.used]
  exact used_calls w w0.heap.size s h1
set_option maxRecDepth 100000 in
set_option maxHeartbeats 1000000 in
theorem lives_calls (w : World) : Calls Try.prog 8 #[] w fun e w' => e = .returned (.bool true) ∧ Below w.heap.size w w' := by
  have kc := fun (w : World) (C : Array Value) (n c : Nat) => Lib.run_convert_bytes_const (P := Try.prog) w 22 5 C n c Try.underlying22 Try.underlying5
  go_enter Try.func8, Try.ntmps8
  go_wp2_with fail
  refine (new_calls w 100 (by omega) (by omega)).mono ?_
  rintro e w1 ⟨s0, rfl, hN0⟩
  obtain ⟨d, hd⟩ : ∃ d, d = s0.d := ⟨_, rfl⟩
  have N0 := Aside0.mk (DiskAt.of_new (Below.refl _ w) hN0)
  rw [← hd] at N0 ⊢
  clear hN0 hd
  go_wp2_with fail
  refine (append_at N0.out ((Below.refl _ w1).alloc (Nat.le_refl _) _) ⟨#[97]⟩ (by decide) _ 2 [97, 98] (Young.made w1 [97, 98] (by decide) _) (by decide)).mono ?_
  rintro e w2 ⟨rfl, hO1⟩
  have O1 : Aside0 (DiskAt w ⟨[⟨[97], [97, 98], 0⟩], 100, -1, false⟩ d w2) := ⟨hO1⟩
  clear hO1
  go_wp2_with fail
  refine (sync_at O1.out ⟨#[97]⟩ (by decide)).mono ?_
  rintro e w3 ⟨rfl, hO1⟩
  have O2 : Aside0 (DiskAt w ⟨[⟨[97], [97, 98], 2⟩], 100, -1, false⟩ d w3) := ⟨hO1⟩
  clear hO1
  go_wp2_with fail
  refine (append_at O2.out ((Below.refl _ w3).alloc (Nat.le_refl _) _) ⟨#[97]⟩ (by decide) _ 2 [99, 100] (Young.made w3 [99, 100] (by decide) _) (by decide)).mono ?_
  rintro e w4 ⟨rfl, hO1⟩
  have O3 : Aside0 (DiskAt w ⟨[⟨[97], [97, 98, 99, 100], 2⟩], 100, -1, false⟩ d w4) := ⟨hO1⟩
  clear hO1
  go_wp2_with fail
  refine (crash_at O3.out ((Below.refl _ w4).alloc (Nat.le_refl _) _) 1 (by omega) (by omega) _ 1 [120] (Young.made w4 [120] (by decide) _) (by decide)).mono ?_
  rintro e w5 ⟨rfl, hO1⟩
  have O4 : Aside0 (DiskAt w ⟨[⟨[97], [97, 98, 99, 120], 4⟩], 100, -1, false⟩ d w5) := ⟨hO1⟩
  clear hO1
  go_wp2_with fail
  refine (read_at O4.out ⟨#[97]⟩ (by decide)).mono ?_
  rintro e w6 ⟨v, rfl, hR, hO1⟩
  have hp : pRead ⟨[⟨[97], [97, 98, 99, 120], 4⟩], 100, -1, false⟩ (⟨#[97]⟩ : ByteArray).data.toList = ([97, 98, 99, 120], true) := rfl
  rw [hp] at hR ⊢
  have O5 := Aside0.mk hO1
  obtain ⟨A, c, hv, _, _⟩ := hR.slice
  subst hv
  have hcv := Kd.C_string (P := Try.prog) (c := c) Try.underlying22 Try.underlying5 Try.underlying9 hR.reads.2
  rw [show strOfNums [97, 98, 99, 120] = ⟨#[97, 98, 99, 120]⟩ by decide] at hcv
  have hcv' : (convert 22 9 (.slice A 4 c)).run Try.prog w6 = .ok (.string ⟨#[97, 98, 99, 120]⟩) w6 := hcv
  clear hO1 hR hp hcv
  go_wp2
  go_ret
  obtain ⟨s, h1, h2, h3, h4, h5⟩ := O5.out
  exact ⟨rfl, h5⟩
end Go.Proofs.Ytlbeehefandfhaa.Pr
end
section
namespace Go.Proofs.Ytlbeehefandfhaa.Pr
open Go.RowKit Go.Maps Go.Sort Go.Proofs.YtlbeehefandfhaaW.PrintWords Go.Proofs.YtlbeehefandfhaaW.PrintLast Go.Proofs.YtlbeehefandfhaaW.PrintMore
theorem DiskAt.old {w0 w : World} {p : PD} {d : Nat} (h : DiskAt w0 p d w) : Below w0.heap.size w0 w := by
  obtain ⟨s, h1, h2, h3, h4, h5⟩ := h
  exact h5
theorem DiskAt.drewN {w0 w : World} {p : PD} {d : Nat} (h : DiskAt w0 p d w) (n : Nat) : DiskAt w0 p d (w.drewN n) := by
  obtain ⟨s, h1, h2, h3, h4, h5⟩ := h
  exact ⟨s, h1.drewN n, h2, h3, h4, pw_below_drewN h5 n⟩
def kOf (keep : Int) (n : Nat) : Nat := (min (max keep 0) n).toNat
def fastX (la lb lt : List Int) (keep : Int) : List Int := la ++ lb.take (kOf keep lb.length) ++ (if lb.length = 0 then [] else lt)
theorem C_take {w : World} {A : Option Addr} {l : List Int} {m : Nat} (h : Kd.C (Kd.int .u8) w A l.length l) (hm : m ≤ l.length) : Kd.C (Kd.int .u8) w A m (l.take m) := by
  have hl : (l.take m).length = m := by rw [List.length_take]; omega
  obtain ⟨h1, h2, h3⟩ := Kd.reads_of_C (d := (0 : Int)) h
  refine Kd.C_of_reads (d := (0 : Int)) ⟨hl, by omega, fun hp => ?_⟩
  obtain ⟨ad, e, hcell⟩ := h3 (by omega)
  refine ⟨ad, e, fun j hj => ?_⟩
  rw [hcell j (by omega)]
  simp [List.getD_eq_getElem?_getD, List.getElem?_take, hj]
theorem str_of_C {w : World} {A : Option Addr} {l : List Int} {m : Nat} (h : Kd.C (Kd.int .u8) w A m l) (hm : l.length = m) (c : Nat) : (convert 22 9 (.slice A m c)).run Try.prog w = .ok (.string (strOfNums l)) w := by
  subst hm
  exact Kd.C_string (P := Try.prog) Try.underlying22 Try.underlying5 Try.underlying9 h
end Go.Proofs.Ytlbeehefandfhaa.Pr
end
section
namespace Go.Proofs.Ytlbeehefandfhaa.Pr
open Go.RowKit Go.Maps Go.Sort Go.Proofs.YtlbeehefandfhaaW.PrintWords Go.Proofs.YtlbeehefandfhaaW.PrintLast Go.Proofs.YtlbeehefandfhaaW.PrintMore
theorem owns_tight {w : World} {m n : Nat} {L : List FileM} (h : w.ownsMap Try.prog 9 ptrE m n (.map (L.map entE))) : w.ownsMap Try.prog 9 ptrE m L.length (.map (L.map entE)) := by
  obtain ⟨es, clock, hb, F, hs, hD⟩ := h
  refine ⟨es, clock, hb, F, ?_, hD⟩
  have : (L.map entE).length = es.size := by
    injection hD with hD
    rw [hD, length_sorted]
    simp
  rw [List.length_map] at this
  omega
theorem abs_delF (n : List UInt8) (L : List FileM) : (delF n L).map absF = delP n (L.map absF) := by
  unfold delF delP
  rw [List.filter_map]
  rfl
theorem abs_insF (f : FileM) (L : List FileM) : (insF f L).map absF = insP (absF f) (L.map absF) := by
  obtain ⟨L1, L2, e1, e2⟩ := insF_split f L
  rw [e1, e2 (absF f) rfl, List.map_append, List.map_cons]
theorem names_ne {s : DiskM} (g : Good s) {X Y : List FileM} {f : FileM} (hL : s.L = X ++ f :: Y) : (∀ x ∈ X, x.name ≠ f.name) ∧ ∀ y ∈ Y, y.name ≠ f.name := by
  have hs := g.wf.sorted
  rw [show s.abs.F = s.L.map absF from rfl, hL, List.pairwise_map] at hs
  obtain ⟨_, p2, p3⟩ := List.pairwise_append.1 hs
  obtain ⟨p4, _⟩ := List.pairwise_cons.1 p2
  refine ⟨fun x hx e => ?_, fun y hy e => ?_⟩
  · have h1 : bytesBefore x.name f.name = true := p3 x hx f (by simp)
    rw [e, bytesBefore_irrefl] at h1
    cases h1
  · have h1 : bytesBefore f.name y.name = true := p4 y hy
    rw [e, bytesBefore_irrefl] at h1
    cases h1
theorem delF_at {s : DiskM} (g : Good s) {X Y : List FileM} {f : FileM} {n : List UInt8} (hL : s.L = X ++ f :: Y) (hn : f.name = n) : delF n s.L = X ++ Y := by
  obtain ⟨h1, h2⟩ := names_ne g hL
  subst hn
  unfold delF
  rw [hL, List.filter_append, List.filter_cons_of_neg (by simp)]
  rw [List.filter_eq_self.2 fun a ha => by simp [h1 a ha], List.filter_eq_self.2 fun a ha => by simp [h2 a ha]]
structure DropDone (w : World) (B : Nat) (s : DiskM) (n : List UInt8) (w' : World) (s' : DiskM) : Prop where
  done : OpDone w B s { s.abs with F := delP n s.abs.F } w' s'
  L : s'.L = delF n s.L
set_option maxRecDepth 100000 in
set_option maxHeartbeats 800000 in
theorem drop_calls (w : World) (B : Nat) (s : DiskM) (h : DiskIs w B s) (g : Good s) (nm : ByteArray) (hs : nm.size ≤ maxLen) :
    Calls Try.prog 25 #[.pointer (some ⟨s.d, 0, none⟩), .string nm] w fun e w' => e = .returned (.tuple #[]) ∧ ∃ s', DropDone w B s nm.data.toList w' s' := by
  have hl := look_at h nm hs
  have k0 := h.c0
  have H := Aside0.mk h
  have G := Aside0.mk g
  have HS9 := Aside0.mk hs
  cases hg : getF nm.data.toList s.L with
  | none =>
    rw [hg] at hl
    simp only [ptrOf] at hl
    have hd : delF nm.data.toList s.L = s.L := delF_none (getF_none hg)
    have HD := Aside0.mk hd
    clear hg h g hd
    go_enter Try.func25, Try.ntmps25
    go_wp2
    go_end0
    have e : ({ s.abs with F := delP nm.data.toList s.abs.F } : PD) = s.abs := by
      have : delP nm.data.toList s.abs.F = s.abs.F := by
        show delP _ (s.L.map absF) = s.L.map absF
        rw [← abs_delF, HD.out]
      rw [this]
    exact ⟨rfl, s, ⟨H.out, StepD.refl _ _, G.out, e.symm, rfl, rfl⟩, HD.out.symm⟩
  | some f =>
    rw [hg] at hl
    simp only [ptrOf] at hl
    obtain ⟨L1, L2, hL, hfn, hL1⟩ := getF_some hg
    have hM : f ∈ s.L := List.mem_of_find?_eq_some hg
    have hF := h.file f hM
    obtain ⟨Af, cf, hv, hcf, hcm⟩ := hF.row.slice
    have f0 := hF.c0
    rw [hv] at f0
    have k2 := h.c2
    have k3 := h.fz 2
    obtain ⟨b0, b1⟩ := bs_le g hM
    have b2 := g.u1
    have b3 := g.s1
    have HL := Aside0.mk (And.intro hL hfn)
    clear hg h g hL hfn hL1 hM hF hv
    go_enter Try.func25, Try.ntmps25
    go_wp2_with fail
    go_region
    go_wp2_with (
      at_delete; refine wpList_del_d rfl _ _ rfl s.m s.L.length s.L rfl (owns_move H.out.map (Below.heap_setCell (w.drewN 1) ⟨s.d, 2, none⟩ _ _ (fun e => H.out.dm e.symm))) nm HS9.out rfl ?_; intro w2 hown2 hgr2; have HO := Aside0.mk hown2; have HG := Aside0.mk hgr2; clear hown2 hgr2)
    go_end0
    obtain ⟨hL, hfn⟩ := HL.out
    have hdel := delF_at G.out hL hfn
    have hp1 : w2.heap[s.d]? = _ := (HG.out.block s.d (by have := (H.out.foot (.inl rfl)).2; simpa [World.setCell] using this) (fun e => H.out.dm (by injection e))).trans (blk_set (w := w.drewN 1) H.out.head 2 (.int .i64 (s.used - f.bs.length)))
    have hab : ({ s with L := delF nm.data.toList s.L, used := s.used - f.bs.length } : DiskM).abs = { s.abs with F := delP nm.data.toList s.abs.F } := by
      show (⟨(delF nm.data.toList s.L).map absF, _, _, _⟩ : PD) = _
      rw [abs_delF]
      rfl
    have hW := G.out.wf.del nm.data.toList
    have hU : s.used - (f.bs.length : Int) = total (delP nm.data.toList s.abs.F) := by
      have hF : s.abs.F = L1.map absF ++ absF f :: L2.map absF := by show s.L.map absF = _; rw [hL]; simp
      have := total_del_at nm.data.toList (L1.map absF) (L2.map absF) (absF f) (by rw [← hF]; exact G.out.wf.sorted) hfn
      rw [← hF] at this
      rw [this, ← G.out.used]
      rfl
    obtain ⟨d1, d2⟩ := H.out.remap (w' := w2) (s' := { s with L := delF nm.data.toList s.L, used := s.used - f.bs.length }) rfl rfl (hp1.trans rfl) (owns_tight HO.out) (H.out.apart.sublist List.filter_sublist)
      (fun f hf => .inl ⟨f, (List.mem_filter.1 hf).1, rfl, rfl, rfl, rfl⟩)
      (fun k hk h1 h2 => (HG.out.block k (by simpa [World.setCell] using hk) (fun e => h2 (by injection e))).trans (Below.heap_setCell (w.drewN 1) _ _ _ h1))
    exact ⟨rfl, _, ⟨d1, ⟨((((Moved.refl _ w).drewN 1).setCell (.inl (.inl rfl)) _).grown HG.out (fun k hk => .inl (.inr (.inl (by injection hk with hk; exact hk.symm))))), d2⟩, ⟨by rw [hab]; exact hW, by rw [hab]; exact hU⟩, hab, rfl, rfl⟩, rfl⟩
theorem remove_calls (w : World) (B : Nat) (s : DiskM) (h : DiskIs w B s) (g : Good s) (nm : ByteArray) (hs : nm.size ≤ maxLen) :
    Calls Try.prog 30 #[.pointer (some ⟨s.d, 0, none⟩), .string nm] w (OpPost w B s (pRemove s.abs nm.data.toList)) := by
  have hat := at_calls w B s h g nm hs
  have HAT := Aside0.mk hat
  have G := Aside0.mk g
  have HS9 := Aside0.mk hs
  clear hat h g
  cases ho : s.goes.out with
  | true =>
    have hp : pRemove s.abs nm.data.toList = (s.abs.goes, 200) := by unfold pRemove; rw [← abs_goes, show s.goes.abs.out = true from ho]; rfl
    have hP : atP s nm.data.toList = .pointer none := by unfold atP; rw [ho]; rfl
    have hE : atE s nm.data.toList = 200 := by unfold atE; rw [ho]; rfl
    have HP := Aside0.mk hp
    have HPP := Aside0.mk hP
    have HE := Aside0.mk hE
    clear ho hp hP hE
    go_enter Try.func30, Try.ntmps30
    go_wp2_with (go_at_call 22; refine HAT.out.mono ?_; rintro e w1 ⟨he, hD, hS⟩; rw [HPP.out, HE.out] at he; subst he; have HD := Aside0.mk hD; have HS := Aside0.mk hS; clear hD hS)
    go_ret
    rw [HP.out]
    exact ⟨rfl, _, OpDone.goes HD.out HS.out G.out rfl⟩
  | false =>
    cases hg : getF nm.data.toList s.L with
    | none =>
      have hp : pRemove s.abs nm.data.toList = (s.abs.goes, 5) := by unfold pRemove; rw [← abs_goes, show s.goes.abs.out = false from ho, getP_none hg]; rfl
      have hP : atP s nm.data.toList = .pointer none := by unfold atP; rw [ho, hg]; rfl
      have hE : atE s nm.data.toList = 5 := by unfold atE; rw [ho, hg]; rfl
      have HP := Aside0.mk hp
      have HPP := Aside0.mk hP
      have HE := Aside0.mk hE
      clear ho hp hP hE hg
      go_enter Try.func30, Try.ntmps30
      go_wp2_with (go_at_call 22; refine HAT.out.mono ?_; rintro e w1 ⟨he, hD, hS⟩; rw [HPP.out, HE.out] at he; subst he; have HD := Aside0.mk hD; have HS := Aside0.mk hS; clear hD hS)
      go_ret
      rw [HP.out]
      exact ⟨rfl, _, OpDone.goes HD.out HS.out G.out rfl⟩
    | some f =>
      have hP : atP s nm.data.toList = .pointer (some ⟨f.p, 0, none⟩) := by unfold atP; rw [ho, hg]; rfl
      have hE : atE s nm.data.toList = 0 := by unfold atE; rw [ho, hg]; rfl
      have hp : pRemove s.abs nm.data.toList = ({ s.abs.goes with F := delP nm.data.toList s.abs.F }, 0) := by
        unfold pRemove
        rw [← abs_goes, show s.goes.abs.out = false from ho, getP_at hg]; rfl
      have HP := Aside0.mk hp
      have HPP := Aside0.mk hP
      have HE := Aside0.mk hE
      clear ho hp hP hE hg
      go_enter Try.func30, Try.ntmps30
      go_wp2_with (first
        | (go_at_call 22; refine HAT.out.mono ?_; rintro e w1 ⟨he, hD, hS⟩; rw [HPP.out, HE.out] at he; subst he; have HD := Aside0.mk hD; have HS := Aside0.mk hS; clear hD hS)
        | (go_at_call 25; refine (drop_calls _ B s.goes HD.out G.out.goes nm HS9.out).mono ?_; rintro e w2 ⟨rfl, s2, hdd⟩; have HDD := Aside0.mk hdd; clear hdd))
      go_ret
      rw [HP.out]
      exact ⟨rfl, s2, HDD.out.done.disk, HS.out.trans HDD.out.done.step, HDD.out.done.good, HDD.out.done.abs, HDD.out.done.d, HDD.out.done.m⟩
end Go.Proofs.Ytlbeehefandfhaa.Pr
end
section
namespace Go.Proofs.Ytlbeehefandfhaa.Pr
open Go.RowKit Go.Maps Go.Sort Go.Proofs.YtlbeehefandfhaaW.PrintWords Go.Proofs.YtlbeehefandfhaaW.PrintLast Go.Proofs.YtlbeehefandfhaaW.PrintMore
theorem get_data (s : ByteArray) (i : Nat) (hi : i < s.data.toList.length) : s.get! i = s.data.toList[i] := by
  cases s with
  | mk d =>
    show d[i]! = _
    rw [getElem!_pos d i (by simpa using hi)]
    simp
theorem toList_loopD (s : ByteArray) : ∀ (n i : Nat) (r : List UInt8), s.size - i = n → ByteArray.toList.loop s i r = r.reverse ++ s.data.toList.drop i := by
  intro n
  induction n with
  | zero =>
    intro i r h
    unfold ByteArray.toList.loop
    have hl : s.data.toList.length = s.size := by rw [Array.length_toList]; rfl
    rw [if_neg (by omega), List.drop_eq_nil_of_le (by omega), List.append_nil]
  | succ n ih =>
    intro i r h
    have hl : s.data.toList.length = s.size := by rw [Array.length_toList]; rfl
    have hi : i < s.size := by omega
    have hi2 : i < s.data.toList.length := by omega
    unfold ByteArray.toList.loop
    rw [if_pos hi, ih _ _ (by omega), get_data s i hi2, List.drop_eq_getElem_cons hi2, List.reverse_cons, List.append_assoc]
    rfl
theorem toList_data (s : ByteArray) : s.toList = s.data.toList := by
  unfold ByteArray.toList
  rw [toList_loopD s s.size 0 [] (by omega)]
  simp
theorem rename_done {w1 w2 w3 w4 : World} {B : Nat} {s s2 : DiskM} {a b : List UInt8} {f : FileM} (hS : StepD w1 s w2 s2) (hDD : DropDone w1 B s b w2 s2) (g : Good s) (hf : getF a s.L = some f) (hok : nameOk b = true) (hab : a ≠ b)
    (hm3 : w3.ownsMap Try.prog 9 ptrE s.m s2.L.length (.map ((delF a s2.L).map entE))) (hg3 : w2.grownBy w3 (some s.m))
    (hm4 : w4.ownsMap Try.prog 9 ptrE s.m ((delF a s2.L).length + 1) ((DataW.map ((delF a s2.L).map entE)).put (.string b) (.held f.p))) (hg4 : w3.grownBy w4 (some s.m)) :
    OpDone w1 B s { s.abs with F := insP { absF f with name := b } (delP a (delP b s.abs.F)) } w4 { s2 with L := insF { f with name := b } (delF a s2.L) } := by
  obtain ⟨X0, Y0, hL0, hfn, hX0⟩ := getF_some hf
  have hfs : f ∈ s.L := List.mem_of_find?_eq_some hf
  have hf2 : f ∈ s2.L := by
    rw [hDD.L]
    exact List.mem_filter.2 ⟨hfs, by rw [hfn]; simp [hab]⟩
  obtain ⟨X, Y, hL⟩ := List.append_of_mem hf2
  have hdel := delF_at hDD.done.good hL hfn
  have hm2 : s2.m = s.m := hDD.done.m
  have hnb : ∀ x ∈ delF a s2.L, x.name ≠ b := fun x hx => by
    have h1 := (List.mem_filter.1 hx).1
    rw [hDD.L] at h1
    have h2 := (List.mem_filter.1 h1).2
    simpa using h2
  have hput : (DataW.map ((delF a s2.L).map entE)).put (.string b) (.held f.p) = .map ((insF { f with name := b } (delF a s2.L)).map entE) := by
    have := put_ent { f with name := b } (delF a s2.L)
    rw [show ({ f with name := b } : FileM).name = b from rfl, delF_none hnb] at this
    exact this
  have hpm := insF_perm { f with name := b } (delF a s2.L)
  have hap : (insF { f with name := b } (delF a s2.L)).Pairwise ApartF := by
    refine (hpm.pairwise_iff (fun h => ApartF.symm h)).2 (List.pairwise_cons.2 ⟨fun x hx => ?_, hDD.done.disk.apart.sublist List.filter_sublist⟩)
    rw [hdel] at hx
    have h0 := hDD.done.disk.apart
    rw [hL] at h0
    obtain ⟨_, p2, p3⟩ := List.pairwise_append.1 h0
    obtain ⟨p4, _⟩ := List.pairwise_cons.1 p2
    rcases List.mem_append.1 hx with hx | hx
    · exact (p3 x hx f (by simp)).symm
    · exact p4 x hx
  have hd2 : s2.d ≠ s.m := by rw [← hm2]; exact hDD.done.disk.dm
  have hdlt := (hDD.done.disk.foot (.inl rfl)).2
  have hmv : ∀ k, k < w2.heap.size → k ≠ s.m → w4.heap[k]? = w2.heap[k]? := fun k hk hn =>
    (hg4.block k (Nat.lt_of_lt_of_le hk hg3.size) (fun e => hn (by injection e))).trans (hg3.block k hk (fun e => hn (by injection e)))
  have hA : ({ s2 with L := insF { f with name := b } (delF a s2.L) } : DiskM).abs = { s.abs with F := insP { absF f with name := b } (delP a (delP b s.abs.F)) } := by
    have h1 := hDD.done.abs
    have h2 : (delF a s2.L).map absF = delP a (delP b s.abs.F) := by
      rw [abs_delF]
      have : s2.L.map absF = s2.abs.F := rfl
      rw [this, h1]
    show (⟨(insF _ _).map absF, _, _, _⟩ : PD) = _
    rw [abs_insF, h2]
    have e1 : s2.size = s.abs.size := congrArg PD.size h1
    have e2 : s2.calls = s.abs.calls := congrArg PD.calls h1
    have e3 : s2.out = s.abs.out := congrArg PD.out h1
    show (⟨_, s2.size, s2.calls, s2.out⟩ : PD) = _
    rw [e1, e2, e3]
    rfl
  obtain ⟨d1, d2⟩ := hDD.done.disk.remap (w' := w4) (s' := { s2 with L := insF { f with name := b } (delF a s2.L) }) rfl rfl ((hmv _ hdlt hd2).trans (hDD.done.disk.head.trans rfl))
    (by rw [hput] at hm4; rw [hm2]; exact owns_tight hm4) hap
    (fun x hx => by
      rcases List.mem_cons.1 (hpm.mem_iff.1 hx) with rfl | hx
      · exact .inl ⟨f, hf2, rfl, rfl, rfl, rfl⟩
      · exact .inl ⟨x, (List.mem_filter.1 hx).1, rfl, rfl, rfl, rfl⟩)
    (fun k hk h1 h2 => hmv k hk (by rw [← hm2]; exact h2))
  have hF : s2.abs.F = X.map absF ++ absF f :: Y.map absF := by show s2.L.map absF = _; rw [hL]; simp
  have htd := total_del_at a (X.map absF) (Y.map absF) (absF f) (by rw [← hF]; exact hDD.done.good.wf.sorted) hfn
  rw [← hF] at htd
  have hFd : delP b s.abs.F = s2.abs.F := by rw [hDD.done.abs]
  have hW2 : WF ({ s.abs with F := delP a (delP b s.abs.F) } : PD) := by
    have h1 := (hDD.done.good.wf).del a
    rw [hDD.done.abs] at h1
    exact h1
  have hW := hW2.ins { absF f with name := b } (fun x hx => by
      have h1 : delP a (delP b s.abs.F) = (delF a s2.L).map absF := by rw [abs_delF, hFd]; rfl
      rw [show ({ s.abs with F := delP a (delP b s.abs.F) } : PD).F = _ from h1] at hx
      obtain ⟨y, hy, rfl⟩ := List.mem_map.1 hx
      exact hnb y hy) hok (hDD.done.good.wf.fast (absF f) (by rw [hF]; simp)) (by
      show total (delP a (delP b s.abs.F)) + (f.bs.length : Int) ≤ s.size
      rw [hFd, htd]
      have h2 := hDD.done.good.wf.room
      have e1 : s2.size = s.size := congrArg PD.size hDD.done.abs
      have h3 : total s2.abs.F ≤ s.size := by rw [← e1]; exact h2
      show total s2.abs.F - (f.bs.length : Int) + _ ≤ _
      omega)
  refine ⟨d1, hDD.done.step.trans ⟨?_, d2⟩, ⟨by rw [hA]; exact hW, ?_⟩, hA, hDD.done.d, hDD.done.m⟩
  · exact ((Moved.refl _ w2).grown hg3 (fun k hk => .inl (.inr (.inl (by injection hk with hk; rw [hm2]; exact hk.symm))))).grown hg4 (fun k hk => .inl (.inr (.inl (by injection hk with hk; rw [hm2]; exact hk.symm))))
  · rw [hA]
    show s2.used = total (insP _ (delP a (delP b s.abs.F)))
    rw [total_perm (insP_perm _ _), hDD.done.good.used, hFd]
    simp only [total]
    rw [htd]
    show _ = (f.bs.length : Int) + (_ - (f.bs.length : Int))
    omega
theorem pRename_out {s : PD} {a b : List UInt8} (h : s.goes.out = true) : pRename s a b = (s.goes, 200) := by unfold pRename; rw [h]; rfl
theorem pRename_name {s : PD} {a b : List UInt8} (h : s.goes.out = false) (hn : nameOk b = false) : pRename s a b = (s.goes, 1) := by unfold pRename; rw [h, hn]; rfl
theorem pRename_none {s : PD} {a b : List UInt8} (h : s.goes.out = false) (hn : nameOk b = true) (hg : getP a s.F = none) : pRename s a b = (s.goes, 5) := by unfold pRename; rw [h, hn, hg]; rfl
theorem pRename_same {s : PD} {a b : List UInt8} {f : PF} (h : s.goes.out = false) (hn : nameOk b = true) (hg : getP a s.F = some f) (hab : a = b) : pRename s a b = (s.goes, 0) := by unfold pRename; rw [h, hn, hg]; simp only [Bool.not_true, Bool.false_eq_true, if_false]; rw [if_pos hab]
theorem pRename_some {s : PD} {a b : List UInt8} {f : PF} (h : s.goes.out = false) (hn : nameOk b = true) (hg : getP a s.F = some f) (hab : ¬ a = b) : pRename s a b = ({ s.goes with F := insP { f with name := b } (delP a (delP b s.F)) }, 0) := by unfold pRename; rw [h, hn, hg]; simp only [Bool.not_true, Bool.false_eq_true, if_false]; rw [if_neg hab]
set_option maxRecDepth 100000 in
set_option maxHeartbeats 1600000 in
theorem rename_calls (w : World) (B : Nat) (s : DiskM) (h : DiskIs w B s) (g : Good s) (na nb : ByteArray) (hs : na.size ≤ maxLen) (hsb : nb.size ≤ maxLen) (hN : s.L.length ≤ 1000000) :
    Calls Try.prog 17 #[.pointer (some ⟨s.d, 0, none⟩), .string na, .string nb] w (OpPost w B s (pRename s.abs na.data.toList nb.data.toList)) := by
  have hl := look_at h na hs
  have k0 := h.c0
  have hin := fun W => isName_calls W nb (by unfold maxLen at hsb; exact hsb)
  have HIN := Aside0.mk hin
  have H := Aside0.mk h
  have G := Aside0.mk g
  have HSA := Aside0.mk hs
  have HSB := Aside0.mk hsb
  have HNN := Aside0.mk hN
  clear hin h g hs hsb hN
  cases ho : s.goes.out with
  | true =>
    have HP := Aside0.mk (pRename_out (s := s.abs) (a := na.data.toList) (b := nb.data.toList) (by rw [← abs_goes]; exact ho))
    have HO := Aside0.mk ho
    clear ho
    cases hg : getF na.data.toList s.L with
    | none =>
      rw [hg] at hl
      simp only [ptrOf] at hl
      clear hg
      go_enter Try.func17, Try.ntmps17
      go_wp2_with (go_at_call 20; refine (goes_calls w B s H.out G.out).mono ?_; rintro e w1 ⟨he, hD, hS⟩; rw [HO.out] at he; subst he; have HD := Aside0.mk hD; have HS := Aside0.mk hS; clear hD hS)
      go_ret
      rw [HP.out]
      exact ⟨rfl, _, OpDone.goes HD.out HS.out G.out rfl⟩
    | some f =>
      rw [hg] at hl
      simp only [ptrOf] at hl
      clear hg
      go_enter Try.func17, Try.ntmps17
      go_wp2_with (go_at_call 20; refine (goes_calls w B s H.out G.out).mono ?_; rintro e w1 ⟨he, hD, hS⟩; rw [HO.out] at he; subst he; have HD := Aside0.mk hD; have HS := Aside0.mk hS; clear hD hS)
      go_ret
      rw [HP.out]
      exact ⟨rfl, _, OpDone.goes HD.out HS.out G.out rfl⟩
  | false =>
    have HO := Aside0.mk ho
    cases hk : nameOk nb.data.toList with
    | false =>
      have HP := Aside0.mk (pRename_name (s := s.abs) (a := na.data.toList) (b := nb.data.toList) (by rw [← abs_goes]; exact ho) hk)
      have HK := Aside0.mk hk
      clear ho hk
      cases hg : getF na.data.toList s.L with
      | none =>
        rw [hg] at hl
        simp only [ptrOf] at hl
        clear hg
        go_enter Try.func17, Try.ntmps17
        go_wp2_with (first
          | (go_at_call 20; refine (goes_calls w B s H.out G.out).mono ?_; rintro e w1 ⟨he, hD, hS⟩; rw [HO.out] at he; subst he; have HD := Aside0.mk hD; have HS := Aside0.mk hS; clear hD hS)
          | (go_at_call 21; refine (HIN.out _).mono ?_; rintro e w2 ⟨he, rfl⟩; rw [HK.out] at he; subst he))
        go_ret
        rw [HP.out]
        exact ⟨rfl, _, OpDone.goes HD.out HS.out G.out rfl⟩
      | some f =>
        rw [hg] at hl
        simp only [ptrOf] at hl
        clear hg
        go_enter Try.func17, Try.ntmps17
        go_wp2_with (first
          | (go_at_call 20; refine (goes_calls w B s H.out G.out).mono ?_; rintro e w1 ⟨he, hD, hS⟩; rw [HO.out] at he; subst he; have HD := Aside0.mk hD; have HS := Aside0.mk hS; clear hD hS)
          | (go_at_call 21; refine (HIN.out _).mono ?_; rintro e w2 ⟨he, rfl⟩; rw [HK.out] at he; subst he))
        go_ret
        rw [HP.out]
        exact ⟨rfl, _, OpDone.goes HD.out HS.out G.out rfl⟩
    | true =>
      have HK := Aside0.mk hk
      cases hg : getF na.data.toList s.L with
      | none =>
        have HP := Aside0.mk (pRename_none (s := s.abs) (a := na.data.toList) (b := nb.data.toList) (by rw [← abs_goes]; exact ho) hk (getP_none hg))
        rw [hg] at hl
        simp only [ptrOf] at hl
        clear hg ho hk
        go_enter Try.func17, Try.ntmps17
        go_wp2_with (first
          | (go_at_call 20; refine (goes_calls w B s H.out G.out).mono ?_; rintro e w1 ⟨he, hD, hS⟩; rw [HO.out] at he; subst he; have HD := Aside0.mk hD; have HS := Aside0.mk hS; clear hD hS)
          | (go_at_call 21; refine (HIN.out _).mono ?_; rintro e w2 ⟨he, rfl⟩; rw [HK.out] at he; subst he))
        go_ret
        rw [HP.out]
        exact ⟨rfl, _, OpDone.goes HD.out HS.out G.out rfl⟩
      | some f =>
        rw [hg] at hl
        simp only [ptrOf] at hl
        have HGF := Aside0.mk hg
        by_cases hab : na = nb
        · subst hab
          have HP := Aside0.mk (pRename_same (s := s.abs) (a := na.data.toList) (b := na.data.toList) (by rw [← abs_goes]; exact ho) hk (getP_at hg) rfl)
          clear hg ho hk
          go_enter Try.func17, Try.ntmps17
          go_wp2_with (first
            | (go_at_call 20; refine (goes_calls w B s H.out G.out).mono ?_; rintro e w1 ⟨he, hD, hS⟩; rw [HO.out] at he; subst he; have HD := Aside0.mk hD; have HS := Aside0.mk hS; clear hD hS)
            | (go_at_call 21; refine (HIN.out _).mono ?_; rintro e w2 ⟨he, rfl⟩; rw [HK.out] at he; subst he))
          go_ret
          rw [HP.out]
          exact ⟨rfl, _, OpDone.goes HD.out HS.out G.out rfl⟩
        · have hne : na.data.toList ≠ nb.data.toList := fun e => hab (Go.WideShapes.bytes_inj e)
          have HP := Aside0.mk (pRename_some (s := s.abs) (a := na.data.toList) (b := nb.data.toList) (by rw [← abs_goes]; exact ho) hk (getP_at hg) hne)
          have HNE := Aside0.mk hne
          have hbq : (na.toList == nb.toList) = false := beq_eq_false_iff_ne.2 (by rw [toList_data, toList_data]; exact hne)
          clear hg ho hk hne
          go_enter Try.func17, Try.ntmps17
          go_wp2_with (first
            | (go_at_call 20; refine (goes_calls w B s H.out G.out).mono ?_; rintro e w1 ⟨he, hD, hS⟩; rw [HO.out] at he; subst he; have HD := Aside0.mk hD; have HS := Aside0.mk hS; clear hD hS)
            | (go_at_call 21; refine (HIN.out _).mono ?_; rintro e w2 ⟨he, rfl⟩; rw [HK.out] at he; subst he)
            | (go_at_call 25; refine (drop_calls _ B s.goes HD.out G.out.goes nb HSB.out).mono ?_; rintro e w2 ⟨rfl, s2, hdd⟩; have HDD := Aside0.mk hdd
               have q0 : w2.cell? ⟨s.d, 0, none⟩ = some (.map (some s.m)) := by have := hdd.done.disk.c0; rw [hdd.done.d, hdd.done.m] at this; exact this
               clear hdd)
            | (at_delete; refine wpList_del_d rfl _ _ rfl s.m s2.L.length s2.L rfl (by have := HDD.out.done.disk.map; rw [HDD.out.done.m] at this; exact this) na HSA.out rfl ?_; intro w3 hown3 hgr3; have HO3 := Aside0.mk hown3; have HG3 := Aside0.mk hgr3
               have q3 : w3.cell? ⟨s.d, 0, none⟩ = some (.map (some s.m)) := (World.cell?_of_block (a := ⟨s.d, 0, none⟩) (hgr3.block s.d (by have h8 := (HDD.out.done.disk.foot (.inl rfl)).2; rw [HDD.out.done.d] at h8; exact h8) (fun e => by have h9 := HDD.out.done.disk.dm; rw [HDD.out.done.d, HDD.out.done.m] at h9; exact h9 (by injection e)))).trans q0
               clear hown3 hgr3)
            | (at_mapUpdate; refine wpList_put_d rfl _ _ _ rfl s.m (delF na.data.toList s2.L).length (delF na.data.toList s2.L) rfl (owns_tight HO3.out) (by
                 have h1 : (delF na.data.toList s2.L).length ≤ s2.L.length := List.length_filter_le _ _
                 have h2 : s2.L.length ≤ s.L.length := by rw [HDD.out.L]; exact List.length_filter_le _ _
                 have h3 := HNN.out
                 omega) nb HSB.out f.p rfl rfl ?_; intro w4 hown4 hgr4; have HO4 := Aside0.mk hown4; have HG4 := Aside0.mk hgr4; clear hown4 hgr4))
          go_ret
          rw [HP.out]
          have hR := rename_done (w1 := w1) HDD.out.done.step HDD.out G.out.goes HGF.out HK.out HNE.out HO3.out HG3.out HO4.out HG4.out
          exact ⟨rfl, _, hR.disk, HS.out.trans hR.step, hR.good, hR.abs, hR.d, hR.m⟩
end Go.Proofs.Ytlbeehefandfhaa.Pr
end
