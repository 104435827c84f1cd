/- The calls of a disk that was made since; the statement's own little living call. -/
import Derived.Test.YtlbeehefandfhaaProg
import Derived.Below
import Derived.Deep.Draws
import Derived.Deep.AppendLies
import Derived.Maps.AppendAt
import Derived.OwnWalk
import Derived.Laws.BytesArg
import Derived.Laws.MakeOwn
import Derived.Laws.OwnMore
import Derived.Deep.OwnRows
import Derived.Tactics
import Derived.Lib.ConvBytes
import Derived.Laws.Slices
import Derived.WalkKit
import Derived.KernelRfl
import Derived.RowKit3
import Derived.Deep.LoopGhost
import Derived.Deep.QuietTactic
import Derived.BigQuiet
import Derived.WideLaws
import Derived.Deep.DeepCutAuto
import Derived.Deep.CutBlock
import Derived.Deep.RegionHeld3
import Derived.Laws.Rows
import Derived.Lib.AppendStr
import Derived.ArgAppend
import Derived.Laws.IdiomCopy
import Derived.OrdersHeld
import Derived.Laws.BitsLemmas
import Derived.RowKit
import Derived.Test.YtlbeehefandfhaaWWords
import Derived.Test.YtlbeehefandfhaaWLast
import Derived.Test.YtlbeehefandfhaaWTab
import Derived.Test.YtlbeehefandfhaaWFour
import Derived.Test.YtlbeehefandfhaaWQPut
import Derived.Test.YtlbeehefandfhaaWApart
import Derived.Test.YtlbeehefandfhaaWArr
import Derived.Test.YtlbeehefandfhaaWZeros
import Derived.Test.YtlbeehefandfhaaWFoot
import Derived.Test.YtlbeehefandfhaaWKept
import Derived.Test.YtlbeehefandfhaaWShare
import Derived.Test.YtlbeehefandfhaaWN
import Derived.Test.YtlbeehefandfhaaWFootNe
import Derived.Test.YtlbeehefandfhaaWAt
import Derived.Test.YtlbeehefandfhaaWEqStruct
import Derived.Test.YtlbeehefandfhaaWRepsOne
import Derived.Test.YtlbeehefandfhaaWInv
import Derived.Test.YtlbeehefandfhaaWInvWords
import Derived.Test.YtlbeehefandfhaaWGuard
import Derived.Test.YtlbeehefandfhaaWNEv
import Derived.Test.YtlbeehefandfhaaWMore
import Derived.Test.YtlbeehefandfhaaDiskM
namespace Go.Proofs.Ytlbeehefandfhaa.Pr
open Go.RowKit Go.Maps Go.Sort Go.Proofs.YtlbeehefandfhaaW.PrintWords Go.Proofs.YtlbeehefandfhaaW.PrintLast Go.Proofs.YtlbeehefandfhaaW.PrintMore
set_option linter.unusedVariables false
set_option linter.unusedSimpArgs false
/-- The disk p lies in w, made since w0. -/
def DiskAt (w0 : World) (p : PD) (d : Nat) (w : World) : Prop := ∃ s, DiskIs w w0.heap.size s ∧ Good s ∧ s.abs = p ∧ s.d = d ∧ Below w0.heap.size w0 w
theorem DiskAt.below {w0 w w' : World} {p : PD} {d : Nat} (h : DiskAt w0 p d w) (hb : Below w.heap.size w w') : DiskAt w0 p d w' := by
  obtain ⟨s, h1, h2, h3, h4, h5⟩ := h
  exact ⟨s, h1.below hb, h2, h3, h4, h5.trans (hb.mono h1.le)⟩
theorem DiskAt.of_new {w0 w w' : World} {size : Int} {s : DiskM} (hb : Below w0.heap.size w0 w) (h : NewDone w size w' s) : DiskAt w0 ⟨[], size, -1, false⟩ s.d w' := by
  refine ⟨s, ?_, h.good, h.abs, rfl, hb.trans (h.below.mono hb.size)⟩
  have := h.disk
  have hs := hb.size
  refine ⟨Nat.le_trans hs this.dB, Nat.le_trans hs this.mB, this.head, this.map, fun f hf => ?_, this.apart⟩
  have h0 : s.abs.F = s.L.map absF := rfl
  rw [h.abs] at h0
  have h1 : s.L = [] := by simpa using h0.symm
  rw [h1] at hf
  cases hf
theorem DiskAt.done {w0 W w w' : World} {q : PD} {d : Nat} {s s' : DiskM} (h1 : DiskIs W w0.heap.size s) (h4 : s.d = d) (h5 : Below w0.heap.size w0 W) (hb : Below W.heap.size W w) (h : OpDone w w0.heap.size s q w' s') : DiskAt w0 q d w' :=
  ⟨s', h.disk, h.good, h.abs, h.d.trans h4, (h5.trans (hb.mono h1.le)).trans (h.step.below (h1.below hb))⟩
/-- The bytes that are handed in lie in blocks that are younger than the disk. -/
structure Young (W w : World) (A : Option Addr) (c : Nat) (l : List Int) : Prop where
  reads : Kd.C (Kd.int .u8) w A l.length l
  cap : l.length ≤ c
  at_ : ∀ a, A = some a → W.heap.size ≤ a.block ∧ a.block < w.heap.size
theorem Young.src {W w : World} {B : Nat} {s : DiskM} {A : Option Addr} {c : Nat} {l : List Int} (h : Young W w A c l) (hD : DiskIs W B s) : SrcIs w s A c l :=
  ⟨h.reads, h.cap, fun a ha hf => by have h1 := (hD.foot hf).2; have h2 := (h.at_ a ha).1; omega, fun a ha => (h.at_ a ha).2⟩
theorem Young.made (W : World) (l : List Int) (h1 : l.length ≤ 1000) (fr : Nat × Nat) : Young W (W.alloc (.cells (nums .u8 l).toArray 5 fr)) (some ⟨W.heap.size, 0, none⟩) l.length l := by
  refine ⟨Kd.C_of_reads (d := (0 : Int)) ⟨rfl, by omega, fun _ => ⟨_, rfl, fun j hj => ?_⟩⟩, Nat.le_refl _, fun a ha => ?_⟩
  · rw [add_plain, cell_of_row _ W.heap.size j _ _ _ (heap_alloc_new W _)]
    simp [nums, List.getD_eq_getElem?_getD, List.getElem?_eq_getElem hj]
  · injection ha with ha
    subst ha
    exact ⟨Nat.le_refl _, by simp⟩
theorem Young.row {W w : World} {A : Option Addr} {n c : Nat} {l : List Int} (h : DRow w W.heap.size (.slice A n c) l) : Young W w A c l := by
  obtain ⟨hn, hC⟩ := h.reads
  obtain ⟨A', c', he, h1, _⟩ := h.slice
  injection he with ha _ hc
  subst ha; subst hc
  exact ⟨hC, h1, fun a ha => by have := h.typed a.block (by rw [ha]; rfl); exact ⟨this.1, this.2.1⟩⟩
theorem append_at {w0 W w : World} {p : PD} {d : Nat} (h : DiskAt w0 p d W) (hb : Below W.heap.size W w) (nm : ByteArray) (hs : nm.size ≤ maxLen) (A : Option Addr) (c : Nat) (l : List Int) (hY : Young W w A c l) (hN : p.F.length ≤ 1000000) :
    Calls Try.prog 9 #[.pointer (some ⟨d, 0, none⟩), .string nm, .slice A l.length c] w fun e w' => e = .returned (.int .i64 (pAppend p nm.data.toList l).2) ∧ DiskAt w0 (pAppend p nm.data.toList l).1 d w' := by
  obtain ⟨s, h1, h2, h3, h4, h5⟩ := h
  have hL : s.L.length ≤ 1000000 := by rw [← h3] at hN; simpa [DiskM.abs] using hN
  subst h4
  rw [← h3]
  exact (append_calls w w0.heap.size s (h1.below hb) h2 nm hs A c l (hY.src h1) hL).mono fun e w' ⟨he, s', hO⟩ => ⟨he, DiskAt.done h1 rfl h5 hb hO⟩
theorem sync_at {w0 w : World} {p : PD} {d : Nat} (h : DiskAt w0 p d w) (nm : ByteArray) (hs : nm.size ≤ maxLen) :
    Calls Try.prog 10 #[.pointer (some ⟨d, 0, none⟩), .string nm] w fun e w' => e = .returned (.int .i64 (pSync p nm.data.toList).2) ∧ DiskAt w0 (pSync p nm.data.toList).1 d w' := by
  obtain ⟨s, h1, h2, h3, h4, h5⟩ := h
  subst h4
  rw [← h3]
  exact (sync_calls w w0.heap.size s h1 h2 nm hs).mono fun e w' ⟨he, s', hO⟩ => ⟨he, DiskAt.done h1 rfl h5 (Below.refl _ _) hO⟩
theorem crash_at {w0 W w : World} {p : PD} {d : Nat} (h : DiskAt w0 p d W) (hb : Below W.heap.size W w) (keep : Int) (hk1 : -9223372036854775808 ≤ keep) (hk2 : keep ≤ 9223372036854775807) (A : Option Addr) (c : Nat) (l : List Int) (hY : Young W w A c l) (hN : p.F.length ≤ 1000000) :
    Calls Try.prog 11 #[.pointer (some ⟨d, 0, none⟩), .int .i64 keep, .slice A l.length c] w fun e w' => e = .returned (.tuple #[]) ∧ DiskAt w0 (pCrash p keep l) d w' := by
  obtain ⟨s, h1, h2, h3, h4, h5⟩ := h
  have hL : s.L.length ≤ 2000000 := by have : s.L.length ≤ 1000000 := by rw [← h3] at hN; simpa [DiskM.abs] using hN
                                       omega
  subst h4
  rw [← h3]
  exact (crash_calls w w0.heap.size s (h1.below hb) h2 keep hk1 hk2 A c l (hY.src h1) hL).mono fun e w' ⟨he, s', hO⟩ => ⟨he, DiskAt.done h1 rfl h5 hb hO⟩
theorem read_at {w0 w : World} {p : PD} {d : Nat} (h : DiskAt w0 p d w) (nm : ByteArray) (hs : nm.size ≤ maxLen) :
    Calls Try.prog 12 #[.pointer (some ⟨d, 0, none⟩), .string nm] w fun e w' => ∃ v, e = .returned (.tuple #[v, .bool (pRead p nm.data.toList).2]) ∧ DRow w' w.heap.size v (pRead p nm.data.toList).1 ∧ DiskAt w0 p d w' := by
  have h' := h
  obtain ⟨s, h1, h2, h3, h4, h5⟩ := h
  subst h4
  rw [← h3] at h' ⊢
  exact (read_calls w w0.heap.size s h1 h2 nm hs).mono fun e w' ⟨v, he, hr, hb⟩ => ⟨v, he, hr, h'.below hb⟩
theorem fast_at {w0 w : World} {p : PD} {d : Nat} (h : DiskAt w0 p d w) (nm : ByteArray) (hs : nm.size ≤ maxLen) :
    Calls Try.prog 13 #[.pointer (some ⟨d, 0, none⟩), .string nm] w fun e w' => e = .returned (.int .i64 (pFast p nm.data.toList)) ∧ w = w' := by
  obtain ⟨s, h1, h2, h3, h4, h5⟩ := h
  subst h4
  rw [← h3]
  exact fast_calls w w0.heap.size s h1 nm hs
theorem used_at {w0 w : World} {p : PD} {d : Nat} (h : DiskAt w0 p d w) :
    Calls Try.prog 15 #[.pointer (some ⟨d, 0, none⟩)] w fun e w' => e = .returned (.int .i64 (total p.F)) ∧ w = w' := by
  obtain ⟨s, h1, h2, h3, h4, h5⟩ := h
  subst h4
  rw [← h3, ← h2.used]
  exact used_calls w w0.heap.size s h1
theorem cut_at {w0 w : World} {p : PD} {d : Nat} (h : DiskAt w0 p d w) (n : Int) (hn1 : -9223372036854775808 ≤ n) (hn2 : n ≤ 9223372036854775807) :
    Calls Try.prog 16 #[.pointer (some ⟨d, 0, none⟩), .int .i64 n] w fun e w' => e = .returned (.tuple #[]) ∧ DiskAt w0 (pCut p n) d w' := by
  obtain ⟨s, h1, h2, h3, h4, h5⟩ := h
  subst h4
  rw [← h3]
  exact (cut_calls w w0.heap.size s h1 h2 n hn1 hn2).mono fun e w' ⟨he, s', c1, c2, c3, c4, c5⟩ => ⟨he, s', c1, c3, c4, c5, h5.trans (c2.below h1)⟩
set_option maxRecDepth 100000 in
set_option maxHeartbeats 1000000 in
theorem lives_calls (w : World) : Calls Try.prog 8 #[] w fun e w' => e = .returned (.bool true) ∧ Below w.heap.size w w' := by
  have kc := fun (w : World) (C : Array Value) (n c : Nat) => Lib.run_convert_bytes_const (P := Try.prog) w 22 5 C n c Try.underlying22 Try.underlying5
  go_enter Try.func8, Try.ntmps8
  go_wp2_with fail
  refine (new_calls w 100 (by omega) (by omega)).mono ?_
  rintro e w1 ⟨s0, rfl, hN0⟩
  obtain ⟨d, hd⟩ : ∃ d, d = s0.d := ⟨_, rfl⟩
  have N0 := Aside0.mk (DiskAt.of_new (Below.refl _ w) hN0)
  rw [← hd] at N0 ⊢
  clear hN0 hd
  go_wp2_with fail
  refine (append_at N0.out ((Below.refl _ w1).alloc (Nat.le_refl _) _) ⟨#[97]⟩ (by decide) _ 2 [97, 98] (Young.made w1 [97, 98] (by decide) _) (by decide)).mono ?_
  rintro e w2 ⟨rfl, hO1⟩
  have O1 : Aside0 (DiskAt w ⟨[⟨[97], [97, 98], 0⟩], 100, -1, false⟩ d w2) := ⟨hO1⟩
  clear hO1
  go_wp2_with fail
  refine (sync_at O1.out ⟨#[97]⟩ (by decide)).mono ?_
  rintro e w3 ⟨rfl, hO1⟩
  have O2 : Aside0 (DiskAt w ⟨[⟨[97], [97, 98], 2⟩], 100, -1, false⟩ d w3) := ⟨hO1⟩
  clear hO1
  go_wp2_with fail
  refine (append_at O2.out ((Below.refl _ w3).alloc (Nat.le_refl _) _) ⟨#[97]⟩ (by decide) _ 2 [99, 100] (Young.made w3 [99, 100] (by decide) _) (by decide)).mono ?_
  rintro e w4 ⟨rfl, hO1⟩
  have O3 : Aside0 (DiskAt w ⟨[⟨[97], [97, 98, 99, 100], 2⟩], 100, -1, false⟩ d w4) := ⟨hO1⟩
  clear hO1
  go_wp2_with fail
  refine (crash_at O3.out ((Below.refl _ w4).alloc (Nat.le_refl _) _) 1 (by omega) (by omega) _ 1 [120] (Young.made w4 [120] (by decide) _) (by decide)).mono ?_
  rintro e w5 ⟨rfl, hO1⟩
  have O4 : Aside0 (DiskAt w ⟨[⟨[97], [97, 98, 99, 120], 4⟩], 100, -1, false⟩ d w5) := ⟨hO1⟩
  clear hO1
  go_wp2_with fail
  refine (read_at O4.out ⟨#[97]⟩ (by decide)).mono ?_
  rintro e w6 ⟨v, rfl, hR, hO1⟩
  have hp : pRead ⟨[⟨[97], [97, 98, 99, 120], 4⟩], 100, -1, false⟩ (⟨#[97]⟩ : ByteArray).data.toList = ([97, 98, 99, 120], true) := rfl
  rw [hp] at hR ⊢
  have O5 := Aside0.mk hO1
  obtain ⟨A, c, hv, _, _⟩ := hR.slice
  subst hv
  have hcv := Kd.C_string (P := Try.prog) (c := c) Try.underlying22 Try.underlying5 Try.underlying9 hR.reads.2
  rw [show strOfNums [97, 98, 99, 120] = ⟨#[97, 98, 99, 120]⟩ by decide] at hcv
  have hcv' : (convert 22 9 (.slice A 4 c)).run Try.prog w6 = .ok (.string ⟨#[97, 98, 99, 120]⟩) w6 := hcv
  clear hO1 hR hp hcv
  go_wp2
  go_ret
  obtain ⟨s, h1, h2, h3, h4, h5⟩ := O5.out
  exact ⟨rfl, h5⟩
end Go.Proofs.Ytlbeehefandfhaa.Pr
