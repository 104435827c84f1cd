/- disk.names: a contract of its call. -/
import Derived.Test.YtlbeehefandfhaaProg
import Derived.Below
import Derived.Deep.Draws
import Derived.Deep.AppendLies
import Derived.Maps.AppendAt
import Derived.OwnWalk
import Derived.Laws.BytesArg
import Derived.Laws.MakeOwn
import Derived.Laws.OwnMore
import Derived.Deep.OwnRows
import Derived.Tactics
import Derived.Lib.ConvBytes
import Derived.Laws.Slices
import Derived.WalkKit
import Derived.KernelRfl
import Derived.RowKit3
import Derived.Deep.LoopGhost
import Derived.Deep.QuietTactic
import Derived.BigQuiet
import Derived.WideLaws
import Derived.Deep.DeepCutAuto
import Derived.Deep.CutBlock
import Derived.Deep.RegionHeld3
import Derived.Laws.Rows
import Derived.Lib.AppendStr
import Derived.ArgAppend
import Derived.Laws.IdiomCopy
import Derived.OrdersHeld
import Derived.Laws.BitsLemmas
import Derived.RowKit
import Derived.Test.YtlbeehefandfhaaWWords
import Derived.Test.YtlbeehefandfhaaWLast
import Derived.Test.YtlbeehefandfhaaWTab
import Derived.Test.YtlbeehefandfhaaWFour
import Derived.Test.YtlbeehefandfhaaWQPut
import Derived.Test.YtlbeehefandfhaaWApart
import Derived.Test.YtlbeehefandfhaaWArr
import Derived.Test.YtlbeehefandfhaaWZeros
import Derived.Test.YtlbeehefandfhaaWFoot
import Derived.Test.YtlbeehefandfhaaWKept
import Derived.Test.YtlbeehefandfhaaWShare
import Derived.Test.YtlbeehefandfhaaWN
import Derived.Test.YtlbeehefandfhaaWFootNe
import Derived.Test.YtlbeehefandfhaaWAt
import Derived.Test.YtlbeehefandfhaaWEqStruct
import Derived.Test.YtlbeehefandfhaaWRepsOne
import Derived.Test.YtlbeehefandfhaaWInv
import Derived.Test.YtlbeehefandfhaaWInvWords
import Derived.Test.YtlbeehefandfhaaWGuard
import Derived.Test.YtlbeehefandfhaaWNEv
import Derived.Test.YtlbeehefandfhaaWMore
import Derived.Test.YtlbeehefandfhaaDiskJ
import Derived.Test.YtlbeehefandfhaaDiskR
import Derived.Test.YtlbeehefandfhaaIter
namespace Go.Proofs.Ytlbeehefandfhaa.Pr
open Go.RowKit Go.Maps Go.Sort Go.Proofs.YtlbeehefandfhaaW.PrintWords Go.Proofs.YtlbeehefandfhaaW.PrintLast Go.Proofs.YtlbeehefandfhaaW.PrintMore
set_option linter.unusedVariables false
set_option linter.unusedSimpArgs false
theorem le_of_before : ∀ a b : List UInt8, bytesBefore a b = true → a ≤ b := by
  have key : ∀ a b : List UInt8, bytesBefore a b = true → ¬ b < a := by
    intro a
    induction a with
    | nil => intro b h hlt; exact absurd hlt (List.not_lt_nil b)
    | cons x a ih =>
      intro b h hlt
      cases b with
      | nil => simp [bytesBefore] at h
      | cons y b =>
        simp only [bytesBefore, Bool.or_eq_true, Bool.and_eq_true, decide_eq_true_eq, beq_iff_eq] at h
        rw [List.cons_lt_cons_iff] at hlt
        rcases h with h | ⟨rfl, h⟩
        · rcases hlt with h2 | ⟨rfl, h2⟩
          · exact absurd (UInt8.lt_trans h h2) (UInt8.lt_irrefl _)
          · exact UInt8.lt_irrefl _ h
        · rcases hlt with h2 | ⟨_, h2⟩
          · exact UInt8.lt_irrefl _ h2
          · exact ih b h h2
  intro a b h
  exact key a b h
theorem names_calls (w : World) (B : Nat) (s : DiskM) (h : DiskIs w B s) (g : Good s) (hN : s.L.length ≤ 2000000) :
    Calls Try.prog 23 #[.pointer (some ⟨s.d, 0, none⟩)] w fun e w' => ∃ v, e = .returned v ∧ w'.ownsRow w.heap.size 9 1 v s.L.length (s.L.map fun f => encStr f.name) ∧ Below w.heap.size w w' := by
  have k0 := h.c0
  have hown := h.map
  have hsz : Maps.size (DataW.map (s.L.map entE)) = s.L.length := by simp [Maps.size]
  have hC := fun W => callsIn_wide.1 (Try.maps_Keys_37 (some s.m) W)
  have hK := callsIn_wide.1 (Try.slices_Sorted_keys_36_37 s.m s.L.length (.map (s.L.map entE)) ptrE w hown (by rw [hsz]; unfold maxLen; omega) (by rw [hsz]; omega))
  have HC := Aside0.mk hC
  have HK := Aside0.mk hK
  have hst : strKeys (DataW.map (s.L.map entE)) = s.L.map (·.name) := by simp [strKeys, entE, strOf]
  have hsorted : (s.L.map (·.name)).mergeSort leB = s.L.map (·.name) := by
    refine List.mergeSort_of_pairwise ?_
    have := g.wf.sorted
    rw [show s.abs.F = s.L.map absF from rfl, List.pairwise_map] at this
    rw [List.pairwise_map]
    refine this.imp fun {a b} hab => ?_
    show decide (a.name ≤ b.name) = true
    exact decide_eq_true (le_of_before _ _ hab)
  have HST := Aside0.mk (And.intro hst hsorted)
  clear hC hK hst hsorted hown hsz h g
  go_enter Try.func23, Try.ntmps23
  go_wp2_with (first
    | (go_at_call 37; refine (HC.out _).mono ?_; rintro e w' ⟨rfl, rfl⟩)
    | (go_at_call 36; refine HK.out.mono ?_; rintro e w' ⟨v, ss, rfl, hS, hrow, hnil, hb⟩; have HH := Aside0.mk (And.intro hS (And.intro hrow hb)); clear hS hrow hnil hb))
  go_ret
  obtain ⟨hS, hrow, hb⟩ := HH.out
  rw [HST.out.1] at hS
  have he : ss.mergeSort (fun x y => decide (x ≤ y)) = s.L.map (·.name) := (mergeSort_of_perm hS).trans HST.out.2
  rw [he, List.map_map, hS.length_eq, List.length_map] at hrow
  refine ⟨v, rfl, own_weaken hrow (by simp), ((Below.refl _ w).alloc (Nat.le_refl _) _).trans (hb.mono (by simp))⟩
end Go.Proofs.Ytlbeehefandfhaa.Pr
