/- disk.Append, where it is refused: a contract of its call. -/
import Derived.Test.YtlbeehefandfhaaProg
import Derived.Below
import Derived.Deep.Draws
import Derived.Deep.AppendLies
import Derived.Maps.AppendAt
import Derived.OwnWalk
import Derived.Laws.BytesArg
import Derived.Laws.MakeOwn
import Derived.Laws.OwnMore
import Derived.Deep.OwnRows
import Derived.Tactics
import Derived.Lib.ConvBytes
import Derived.Laws.Slices
import Derived.WalkKit
import Derived.KernelRfl
import Derived.RowKit3
import Derived.Deep.LoopGhost
import Derived.Deep.QuietTactic
import Derived.BigQuiet
import Derived.WideLaws
import Derived.Deep.DeepCutAuto
import Derived.Deep.CutBlock
import Derived.Deep.RegionHeld3
import Derived.Laws.Rows
import Derived.Lib.AppendStr
import Derived.ArgAppend
import Derived.Laws.IdiomCopy
import Derived.OrdersHeld
import Derived.Laws.BitsLemmas
import Derived.RowKit
import Derived.Test.YtlbeehefandfhaaWWords
import Derived.Test.YtlbeehefandfhaaWLast
import Derived.Test.YtlbeehefandfhaaWTab
import Derived.Test.YtlbeehefandfhaaWFour
import Derived.Test.YtlbeehefandfhaaWQPut
import Derived.Test.YtlbeehefandfhaaWApart
import Derived.Test.YtlbeehefandfhaaWArr
import Derived.Test.YtlbeehefandfhaaWZeros
import Derived.Test.YtlbeehefandfhaaWFoot
import Derived.Test.YtlbeehefandfhaaWKept
import Derived.Test.YtlbeehefandfhaaWShare
import Derived.Test.YtlbeehefandfhaaWN
import Derived.Test.YtlbeehefandfhaaWFootNe
import Derived.Test.YtlbeehefandfhaaWAt
import Derived.Test.YtlbeehefandfhaaWEqStruct
import Derived.Test.YtlbeehefandfhaaWRepsOne
import Derived.Test.YtlbeehefandfhaaWInv
import Derived.Test.YtlbeehefandfhaaWInvWords
import Derived.Test.YtlbeehefandfhaaWGuard
import Derived.Test.YtlbeehefandfhaaWNEv
import Derived.Test.YtlbeehefandfhaaWMore
import Derived.Test.YtlbeehefandfhaaDiskG
namespace Go.Proofs.Ytlbeehefandfhaa.Pr
open Go.RowKit Go.Maps Go.Proofs.YtlbeehefandfhaaW.PrintWords Go.Proofs.YtlbeehefandfhaaW.PrintLast Go.Proofs.YtlbeehefandfhaaW.PrintMore
set_option linter.unusedVariables false
set_option linter.unusedSimpArgs false
theorem C_stay {w w1 : World} {A : Option Addr} {l : List Int} (h : Kd.C (Kd.int .u8) w A l.length l) (hm : ∀ a, A = some a → w1.heap[a.block]? = w.heap[a.block]?) : Kd.C (Kd.int .u8) w1 A l.length l := by
  obtain ⟨h1, h2, h3⟩ := Kd.reads_of_C (d := (0 : Int)) h
  refine Kd.C_of_reads (d := (0 : Int)) ⟨h1, h2, fun hl => ?_⟩
  obtain ⟨ad, rfl, hc⟩ := h3 hl
  refine ⟨ad, rfl, fun j hj => ?_⟩
  rw [← hc j hj]
  have hb : (ad.add j).block = ad.block := by unfold Addr.add; split <;> rfl
  exact World.cell?_of_block (by rw [hb]; exact hm ad rfl)
/-- The bytes that are handed in lie in no block of the disk. -/
structure SrcIs (w : World) (s : DiskM) (A : Option Addr) (c : Nat) (l : List Int) : Prop where
  reads : Kd.C (Kd.int .u8) w A l.length l
  cap : l.length ≤ c
  far : ∀ a, A = some a → ¬ Foot20 s a.block
  lt : ∀ a, A = some a → a.block < w.heap.size
theorem SrcIs.step {w w' : World} {s s' : DiskM} {A : Option Addr} {c : Nat} {l : List Int} (h : SrcIs w s A c l) (k : StepD w s w' s') : SrcIs w' s' A c l :=
  ⟨C_stay h.reads (fun a ha => k.moved.block _ (h.lt a ha) (h.far a ha)), h.cap, fun a ha hf => by
    rcases k.foot _ hf with h1 | h1
    · exact h.far a ha h1
    · have := h.lt a ha; omega, fun a ha => Nat.lt_of_lt_of_le (h.lt a ha) k.moved.size⟩
theorem SrcIs.len {w : World} {s : DiskM} {A : Option Addr} {c : Nat} {l : List Int} (h : SrcIs w s A c l) : l.length ≤ 9223372036854775807 := (Kd.reads_of_C (d := (0 : Int)) h.reads).2.1
theorem pAppend_out {s : PD} {n : List UInt8} {l : List Int} (h : s.out = true) : pAppend s n l = (s.goes, 200) := by unfold pAppend; rw [h]; rfl
theorem pAppend_name {s : PD} {n : List UInt8} {l : List Int} (h : s.out = false) (hn : nameOk n = false) : pAppend s n l = (s.goes, if s.goes.out then 200 else 1) := by unfold pAppend; rw [h, hn]; rfl
theorem pAppend_room {s : PD} {n : List UInt8} {l : List Int} (h : s.out = false) (hn : nameOk n = true) (hr : (l.length : Int) > s.size - total s.F) : pAppend s n l = (s.goes, 200) := by unfold pAppend; rw [h, hn]; simp only [Bool.not_true, Bool.false_eq_true, if_false]; rw [if_pos hr]
theorem pAppend_some {s : PD} {n : List UInt8} {l : List Int} {f : PF} (h : s.out = false) (hn : nameOk n = true) (hr : ¬ (l.length : Int) > s.size - total s.F) (hg : getP n s.F = some f) :
    pAppend s n l = ({ s.goes with F := updP n (fun f => { f with bs := f.bs ++ l }) s.F }, if s.goes.out then 200 else 0) := by unfold pAppend; rw [h, hn]; simp only [Bool.not_true, Bool.false_eq_true, if_false]; rw [if_neg hr, hg]
theorem pAppend_none {s : PD} {n : List UInt8} {l : List Int} (h : s.out = false) (hn : nameOk n = true) (hr : ¬ (l.length : Int) > s.size - total s.F) (hg : getP n s.F = none) :
    pAppend s n l = ({ s.goes with F := insP ⟨n, l, 0⟩ s.F }, if s.goes.out then 200 else 0) := by unfold pAppend; rw [h, hn]; simp only [Bool.not_true, Bool.false_eq_true, if_false]; rw [if_neg hr, hg]
set_option maxHeartbeats 800000 in
theorem append_refused (w : World) (B : Nat) (s : DiskM) (h : DiskIs w B s) (g : Good s) (nm : ByteArray) (hs : nm.size ≤ maxLen) (A : Option Addr) (c : Nat) (l : List Int) (hS : SrcIs w s A c l)
    (hn : s.out = true ∨ nameOk nm.data.toList = false ∨ (l.length : Int) > s.size - s.used) :
    Calls Try.prog 9 #[.pointer (some ⟨s.d, 0, none⟩), .string nm, .slice A l.length c] w (OpPost w B s (pAppend s.abs nm.data.toList l)) := by
  have k4 := h.c4
  have hin := fun W => isName_calls W nm (by unfold maxLen at hs; exact hs)
  have HIN := Aside0.mk hin
  have H := Aside0.mk h
  have G := Aside0.mk g
  have HN := Aside0.mk hn
  have hl := hS.len
  have u0 := g.u0
  have u1 := g.u1
  have s1 := g.s1
  have hu := Aside0.mk g.used
  clear hin h g hn hS
  cases ho : s.out with
  | true =>
    have HP := Aside0.mk (pAppend_out (s := s.abs) (n := nm.data.toList) (l := l) ho)
    rw [ho] at k4
    clear ho
    go_enter Try.func9, Try.ntmps9
    go_wp2_with (go_at_call 20; refine (goes_calls w B s H.out G.out).mono ?_; rintro e w1 ⟨rfl, hD, hS⟩; have HD := Aside0.mk hD; have HS := Aside0.mk hS; clear hD hS)
    go_ret
    rw [HP.out]
    exact ⟨rfl, _, OpDone.goes HD.out HS.out G.out rfl⟩
  | false =>
    rw [ho] at k4
    cases hk : nameOk nm.data.toList with
    | false =>
      have HP := Aside0.mk (pAppend_name (s := s.abs) (n := nm.data.toList) (l := l) ho hk)
      have HK := Aside0.mk hk
      cases hgo : s.goes.out with
      | true =>
        have HGO := Aside0.mk hgo
        clear ho hk hgo
        go_enter Try.func9, Try.ntmps9
        go_wp2_with (first
          | (go_at_call 20; refine (goes_calls w B s H.out G.out).mono ?_; rintro e w1 ⟨he, hD, hS⟩; rw [HGO.out] at he; subst he; have HD := Aside0.mk hD; have HS := Aside0.mk hS; clear hD hS)
          | (go_at_call 21; refine (HIN.out _).mono ?_; rintro e w2 ⟨he, rfl⟩; rw [HK.out] at he; subst he))
        go_ret
        rw [HP.out]
        exact ⟨by rw [← abs_goes, show s.goes.abs.out = true from HGO.out]; rfl, _, OpDone.goes HD.out HS.out G.out rfl⟩
      | false =>
        have HGO := Aside0.mk hgo
        clear ho hk hgo
        go_enter Try.func9, Try.ntmps9
        go_wp2_with (first
          | (go_at_call 20; refine (goes_calls w B s H.out G.out).mono ?_; rintro e w1 ⟨he, hD, hS⟩; rw [HGO.out] at he; subst he; have HD := Aside0.mk hD; have HS := Aside0.mk hS; clear hD hS)
          | (go_at_call 21; refine (HIN.out _).mono ?_; rintro e w2 ⟨he, rfl⟩; rw [HK.out] at he; subst he))
        go_ret
        rw [HP.out]
        exact ⟨by rw [← abs_goes, show s.goes.abs.out = false from HGO.out]; rfl, _, OpDone.goes HD.out HS.out G.out rfl⟩
    | true =>
      have hr : (l.length : Int) > s.size - s.used := by
        rcases HN.out with h | h | h
        · rw [ho] at h; cases h
        · rw [hk] at h; cases h
        · exact h
      have HP := Aside0.mk (pAppend_room (s := s.abs) (n := nm.data.toList) (l := l) ho hk (by rw [← hu.out]; exact hr))
      have HK := Aside0.mk hk
      have hd : s.size - s.used < (l.length : Int) := hr
      clear ho hk hr
      go_enter Try.func9, Try.ntmps9
      go_wp2_with (first
          | (go_at_call 20; refine (goes_calls w B s H.out G.out).mono ?_; rintro e w1 ⟨rfl, hD, hS⟩; have q1 : w1.cell? ⟨s.d, 1, none⟩ = some (.int .i64 s.size) := hD.c1; have q2 : w1.cell? ⟨s.d, 2, none⟩ = some (.int .i64 s.used) := hD.c2; have HD := Aside0.mk hD; have HS := Aside0.mk hS; clear hD hS)
          | (go_at_call 21; refine (HIN.out _).mono ?_; rintro e w2 ⟨he, rfl⟩; rw [HK.out] at he; subst he))
      go_quiet (fail)
      go_wp2
      go_ret
      rw [HP.out]
      exact ⟨rfl, _, OpDone.goes (HD.out.drewN _) ⟨HS.out.moved.drewN _, HS.out.foot⟩ G.out rfl⟩
end Go.Proofs.Ytlbeehefandfhaa.Pr
