/- slices.Clone of bytes, disk.Read: contracts of their calls. -/
import Derived.Test.YtlbeehefandfhaaProg
import Derived.Below
import Derived.Deep.Draws
import Derived.Deep.AppendLies
import Derived.Maps.AppendAt
import Derived.OwnWalk
import Derived.Laws.BytesArg
import Derived.Laws.MakeOwn
import Derived.Laws.OwnMore
import Derived.Deep.OwnRows
import Derived.Tactics
import Derived.Lib.ConvBytes
import Derived.Laws.Slices
import Derived.WalkKit
import Derived.KernelRfl
import Derived.RowKit3
import Derived.Deep.LoopGhost
import Derived.Deep.QuietTactic
import Derived.BigQuiet
import Derived.WideLaws
import Derived.Deep.DeepCutAuto
import Derived.Deep.CutBlock
import Derived.Deep.RegionHeld3
import Derived.Laws.Rows
import Derived.Lib.AppendStr
import Derived.ArgAppend
import Derived.Laws.IdiomCopy
import Derived.OrdersHeld
import Derived.Laws.BitsLemmas
import Derived.RowKit
import Derived.Test.YtlbeehefandfhaaWWords
import Derived.Test.YtlbeehefandfhaaWLast
import Derived.Test.YtlbeehefandfhaaWTab
import Derived.Test.YtlbeehefandfhaaWFour
import Derived.Test.YtlbeehefandfhaaWQPut
import Derived.Test.YtlbeehefandfhaaWApart
import Derived.Test.YtlbeehefandfhaaWArr
import Derived.Test.YtlbeehefandfhaaWZeros
import Derived.Test.YtlbeehefandfhaaWFoot
import Derived.Test.YtlbeehefandfhaaWKept
import Derived.Test.YtlbeehefandfhaaWShare
import Derived.Test.YtlbeehefandfhaaWN
import Derived.Test.YtlbeehefandfhaaWFootNe
import Derived.Test.YtlbeehefandfhaaWAt
import Derived.Test.YtlbeehefandfhaaWEqStruct
import Derived.Test.YtlbeehefandfhaaWRepsOne
import Derived.Test.YtlbeehefandfhaaWInv
import Derived.Test.YtlbeehefandfhaaWInvWords
import Derived.Test.YtlbeehefandfhaaWGuard
import Derived.Test.YtlbeehefandfhaaWNEv
import Derived.Test.YtlbeehefandfhaaWMore
import Derived.Test.YtlbeehefandfhaaDiskF
namespace Go.Proofs.Ytlbeehefandfhaa.Pr
open Go.RowKit Go.Maps Go.Proofs.YtlbeehefandfhaaW.PrintWords Go.Proofs.YtlbeehefandfhaaW.PrintLast Go.Proofs.YtlbeehefandfhaaW.PrintMore
set_option linter.unusedVariables false
set_option linter.unusedSimpArgs false
theorem src_of_D {w : World} {B : Nat} {A : Option Addr} {n c : Nat} {bs : List Int} (h : DRow w B (.slice A n c) bs) : Src Try.prog 1 22 (.slice A n c) bs.length (nums .u8 bs) w := by
  obtain ⟨hn, hC⟩ := h.reads
  subst hn
  obtain ⟨A', c', he, h1, _⟩ := h.slice
  injection he with ha _ hc
  subst ha; subst hc
  exact src_of_C hC h1
set_option maxHeartbeats 400000 in
theorem clone_calls (w : World) (B : Nat) (v : Value) (bs : List Int) (h : DRow w B v bs) (hb : bs.length ≤ 1073741824) :
    Calls Try.prog 24 #[v] w fun e w' => ∃ v', e = .returned v' ∧ DRow w' w.heap.size v' bs ∧ Below w.heap.size w w' := by
  have H := Aside0.mk h
  rcases h with ⟨rfl, rfl⟩ | ⟨g, cap, cur, rfl, hB, hh, h1, h2, h3, h4⟩
  · have hq := Lib.run_eql_slice_nil (P := Try.prog) w 22 5 none 0 0 0 0 Try.underlying22
    clear hb
    go_enter Try.func24, Try.ntmps24
    go_wp2
    go_ret
    exact ⟨_, rfl, DRow.nil _ _, Below.refl _ _⟩
  · have hq := Lib.run_eql_slice_nil (P := Try.prog) w 22 5 (some ⟨g, 0, none⟩) bs.length cap 0 0 Try.underlying22
    have hlt : g < w.heap.size := (Array.getElem?_eq_some_iff.1 hh).1
    have HLT := Aside0.mk hlt
    have HB := Aside0.mk hb
    clear hb hh h1 h2 h3 h4 hlt
    go_enter Try.func24, Try.ntmps24
    go_wp2_with (at_builtin; refine wpList_append_d rfl _ _ rfl w.heap.size (.slice (some ⟨w.heap.size, 0, none⟩) 0 0) [] bs rfl (.inr ⟨w.heap.size, 0, #[], rfl, Nat.le_refl _, heap_alloc_new w _, Nat.le_refl _, Nat.zero_le _, Nat.zero_le _, rfl⟩) (.slice (some ⟨g, 0, none⟩) bs.length cap) rfl (src_of_D (H.out.move (fun k hk => Below.heap_alloc w _ k (by have : g = k := (by simpa [Value.ownBlock] using hk); subst this; exact HLT.out)))) (by have := HB.out; simp; omega) (by simp) ?_; intro v1 w1 hown hg hat; have HO := Aside0.mk hown; have HG := Aside0.mk hg; clear hown hg hat)
    go_ret
    refine ⟨_, rfl, HO.out, ?_⟩
    exact ((Below.refl _ _).alloc (Nat.le_refl _) _).grown HG.out (by simp) (fun k hk => by have : w.heap.size = k := (by simpa [Value.ownBlock] using hk); omega)
set_option maxHeartbeats 400000 in
theorem read_calls (w : World) (B : Nat) (s : DiskM) (h : DiskIs w B s) (g : Good s) (nm : ByteArray) (hs : nm.size ≤ maxLen) :
    Calls Try.prog 12 #[.pointer (some ⟨s.d, 0, none⟩), .string nm] w fun e w' => ∃ v, e = .returned (.tuple #[v, .bool (pRead s.abs nm.data.toList).2]) ∧ DRow w' w.heap.size v (pRead s.abs nm.data.toList).1 ∧ Below w.heap.size w w' := by
  have hl := look_at h nm hs
  have k0 := h.c0
  cases hg : getF nm.data.toList s.L with
  | none =>
    have hp : pRead s.abs nm.data.toList = ([], false) := by unfold pRead; rw [getP_none hg]
    have HP := Aside0.mk hp
    rw [hg] at hl
    simp only [ptrOf] at hl
    clear hg h g hp
    go_enter Try.func12, Try.ntmps12
    go_wp2
    go_ret2
    rw [HP.out]
    exact ⟨_, rfl, DRow.nil _ _, Below.refl _ _⟩
  | some f =>
    have hp : pRead s.abs nm.data.toList = (f.bs, true) := by unfold pRead; rw [getP_at hg]; rfl
    have HP := Aside0.mk hp
    rw [hg] at hl
    simp only [ptrOf] at hl
    have hm : f ∈ s.L := List.mem_of_find?_eq_some hg
    have hf0 := (h.file f hm).c0
    have HR := Aside0.mk (h.file f hm).row
    have hbl : f.bs.length ≤ 1073741824 := by
      have h1 := (bs_le g hm).1
      have h2 := g.u1
      have h3 := g.s1
      omega
    have HBL := Aside0.mk hbl
    clear hg h g hp hm hbl
    go_enter Try.func12, Try.ntmps12
    go_wp2_with (go_at_call 24; refine (clone_calls w B f.v f.bs HR.out HBL.out).mono ?_; rintro e w1 ⟨v1, rfl, hd, hb⟩; have HD := Aside0.mk hd; have HB := Aside0.mk hb; clear hd hb)
    go_ret2
    rw [HP.out]
    exact ⟨_, rfl, HD.out, HB.out⟩
end Go.Proofs.Ytlbeehefandfhaa.Pr
