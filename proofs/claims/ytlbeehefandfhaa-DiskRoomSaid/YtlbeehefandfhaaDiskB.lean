/- The disk in memory: its head, its map and its files; what a write leaves as it was. -/
import Derived.Test.YtlbeehefandfhaaProg
import Derived.Below
import Derived.Deep.Draws
import Derived.Deep.AppendLies
import Derived.Maps.AppendAt
import Derived.OwnWalk
import Derived.Laws.BytesArg
import Derived.Laws.MakeOwn
import Derived.Laws.OwnMore
import Derived.Deep.OwnRows
import Derived.Tactics
import Derived.Lib.ConvBytes
import Derived.Laws.Slices
import Derived.WalkKit
import Derived.KernelRfl
import Derived.RowKit3
import Derived.Deep.LoopGhost
import Derived.Deep.QuietTactic
import Derived.BigQuiet
import Derived.WideLaws
import Derived.Deep.DeepCutAuto
import Derived.Deep.CutBlock
import Derived.Deep.RegionHeld3
import Derived.Laws.Rows
import Derived.Lib.AppendStr
import Derived.ArgAppend
import Derived.Laws.IdiomCopy
import Derived.OrdersHeld
import Derived.Laws.BitsLemmas
import Derived.RowKit
import Derived.Test.YtlbeehefandfhaaWWords
import Derived.Test.YtlbeehefandfhaaWLast
import Derived.Test.YtlbeehefandfhaaWTab
import Derived.Test.YtlbeehefandfhaaWFour
import Derived.Test.YtlbeehefandfhaaWQPut
import Derived.Test.YtlbeehefandfhaaWApart
import Derived.Test.YtlbeehefandfhaaWArr
import Derived.Test.YtlbeehefandfhaaWZeros
import Derived.Test.YtlbeehefandfhaaWFoot
import Derived.Test.YtlbeehefandfhaaWKept
import Derived.Test.YtlbeehefandfhaaWShare
import Derived.Test.YtlbeehefandfhaaWN
import Derived.Test.YtlbeehefandfhaaWFootNe
import Derived.Test.YtlbeehefandfhaaWAt
import Derived.Test.YtlbeehefandfhaaWEqStruct
import Derived.Test.YtlbeehefandfhaaWRepsOne
import Derived.Test.YtlbeehefandfhaaWInv
import Derived.Test.YtlbeehefandfhaaWInvWords
import Derived.Test.YtlbeehefandfhaaWGuard
import Derived.Test.YtlbeehefandfhaaWNEv
import Derived.Test.YtlbeehefandfhaaWMore
import Derived.Test.YtlbeehefandfhaaDiskA
namespace Go.Proofs.Ytlbeehefandfhaa.Pr
open Go.RowKit Go.Maps Go.Proofs.YtlbeehefandfhaaW.PrintWords Go.Proofs.YtlbeehefandfhaaW.PrintLast Go.Proofs.YtlbeehefandfhaaW.PrintMore
set_option linter.unusedVariables false
set_option linter.unusedSimpArgs false
structure FileM where
  name : List UInt8
  p : Nat
  v : Value
  bs : List Int
  fast : Nat
structure DiskM where
  d : Nat
  m : Nat
  L : List FileM
  size : Int
  used : Int
  calls : Int
  out : Bool
structure FileIs (w : World) (B : Nat) (f : FileM) : Prop where
  pB : B ≤ f.p
  head : w.heap[f.p]? = some (.cells #[f.v, .int .i64 f.fast] 62 (0, 0))
  row : DRow w B f.v f.bs
def ptrE : Value → Option (DataW Nat × List MemPlace)
  | .pointer (some ⟨p, 0, none⟩) => some (.held p, [])
  | .pointer none => some (.nil, [])
  | _ => none
def entE (f : FileM) : Lit × DataW Nat := (.string f.name, .held f.p)
def cellsD (s : DiskM) : Array Value := #[.map (some s.m), .int .i64 s.size, .int .i64 s.used, .int .i64 s.calls, .bool s.out]
def ApartF (f g : FileM) : Prop := f.p ≠ g.p ∧ ∀ k, f.v.ownBlock = some k → g.v.ownBlock ≠ some k
theorem ApartF.symm {f g : FileM} (h : ApartF f g) : ApartF g f := ⟨fun e => h.1 e.symm, fun k hk hf => h.2 k hf hk⟩
structure DiskIs (w : World) (B : Nat) (s : DiskM) : Prop where
  dB : B ≤ s.d
  mB : B ≤ s.m
  head : w.heap[s.d]? = some (.cells (cellsD s) 58 (0, 0))
  map : w.ownsMap Try.prog 9 ptrE s.m s.L.length (.map (s.L.map entE))
  file : ∀ f ∈ s.L, FileIs w B f
  apart : s.L.Pairwise ApartF
def Foot20 (s : DiskM) (k : Nat) : Prop := k = s.d ∨ k = s.m ∨ ∃ f ∈ s.L, k = f.p ∨ f.v.ownBlock = some k
structure Moved (F : Nat → Prop) (w w' : World) : Prop where
  os : w'.os = w.os
  tape : w'.tape = w.tape
  output : w'.output = w.output
  size : w.heap.size ≤ w'.heap.size
  block : ∀ k, k < w.heap.size → ¬ F k → w'.heap[k]? = w.heap[k]?
theorem Moved.refl (F : Nat → Prop) (w : World) : Moved F w w := ⟨rfl, rfl, rfl, Nat.le_refl _, fun _ _ _ => rfl⟩
theorem Moved.drewN {F : Nat → Prop} {w w' : World} (h : Moved F w w') (n : Nat) : Moved F w (w'.drewN n) := ⟨h.os, h.tape, h.output, h.size, h.block⟩
theorem Moved.alloc {F : Nat → Prop} {w w' : World} (h : Moved F w w') (o : Obj) : Moved F w (w'.alloc o) :=
  ⟨h.os, h.tape, h.output, by have := h.size; simp; omega, fun k hk hF => (Below.heap_alloc w' o k (Nat.lt_of_lt_of_le hk h.size)).trans (h.block k hk hF)⟩
theorem Moved.setCell {F : Nat → Prop} {w w' : World} (h : Moved F w w') {a : Addr} (ha : F a.block ∨ w.heap.size ≤ a.block) (v : Value) : Moved F w (w'.setCell a v) :=
  ⟨h.os, h.tape, h.output, by have := h.size; simpa [World.setCell] using this, fun k hk hF => (Below.heap_setCell w' a v k (fun e => by subst e; exact ha.elim hF (fun h => by omega))).trans (h.block k hk hF)⟩
theorem Moved.grown {F : Nat → Prop} {w w1 w2 : World} (h : Moved F w w1) {row : Option Nat} (hg : w1.grownBy w2 row) (hr : ∀ k, row = some k → F k ∨ w.heap.size ≤ k) : Moved F w w2 :=
  ⟨hg.os.trans h.os, hg.tape.trans h.tape, hg.output.trans h.output, Nat.le_trans h.size hg.size, fun k hk hF => (hg.block k (Nat.lt_of_lt_of_le hk h.size) (fun e => (hr k e.symm).elim hF (fun h => by omega))).trans (h.block k hk hF)⟩
theorem Moved.imp {F F' : Nat → Prop} {w w' : World} (h : Moved F w w') (hF : ∀ k, k < w.heap.size → F k → F' k) : Moved F' w w' := ⟨h.os, h.tape, h.output, h.size, fun k hk hn => h.block k hk (fun hf => hn (hF k hk hf))⟩
theorem Moved.trans {F G : Nat → Prop} {a b c : World} (h : Moved F a b) (k : Moved G b c) (hG : ∀ i, G i → F i ∨ a.heap.size ≤ i) : Moved F a c :=
  ⟨k.os.trans h.os, k.tape.trans h.tape, k.output.trans h.output, Nat.le_trans h.size k.size, fun i hi hF => (k.block i (Nat.lt_of_lt_of_le hi h.size) (fun hg => (hG i hg).elim hF (fun h => by omega))).trans (h.block i hi hF)⟩
theorem Moved.below {F : Nat → Prop} {w w' : World} {B : Nat} (h : Moved F w w') (hF : ∀ k, F k → B ≤ k) (hB : B ≤ w.heap.size) : Below B w w' :=
  ⟨h.os, h.tape, h.output, h.size, fun k hk => h.block k (by omega) (fun hf => by have := hF k hf; omega)⟩
theorem Moved.of_below {F : Nat → Prop} {w w' : World} (h : Below w.heap.size w w') : Moved F w w' := ⟨h.os, h.tape, h.output, h.size, fun k hk _ => h.block k hk⟩
structure StepD (w : World) (s : DiskM) (w' : World) (s' : DiskM) : Prop where
  moved : Moved (Foot20 s) w w'
  foot : ∀ k, Foot20 s' k → Foot20 s k ∨ w.heap.size ≤ k
theorem StepD.refl (w : World) (s : DiskM) : StepD w s w s := ⟨Moved.refl _ w, fun k hk => .inl hk⟩
theorem StepD.trans {w w1 w2 : World} {s s1 s2 : DiskM} (h : StepD w s w1 s1) (k : StepD w1 s1 w2 s2) : StepD w s w2 s2 :=
  ⟨h.moved.trans k.moved h.foot, fun i hi => by
    rcases k.foot i hi with h1 | h1
    · exact h.foot i h1
    · exact .inr (Nat.le_trans h.moved.size h1)⟩
section
variable {w w' : World} {B : Nat} {s s' : DiskM}
theorem DiskIs.foot (h : DiskIs w B s) {k : Nat} (hk : Foot20 s k) : B ≤ k ∧ k < w.heap.size := by
  rcases hk with rfl | rfl | ⟨f, hf, rfl | hk⟩
  · exact ⟨h.dB, (Array.getElem?_eq_some_iff.1 h.head).1⟩
  · exact ⟨h.mB, h.map.lt⟩
  · exact ⟨(h.file f hf).pB, (Array.getElem?_eq_some_iff.1 (h.file f hf).head).1⟩
  · obtain ⟨h1, h2, _⟩ := (h.file f hf).row.typed k hk
    exact ⟨h1, h2⟩
theorem DiskIs.le (h : DiskIs w B s) : B ≤ w.heap.size := by have := h.foot (k := s.d) (.inl rfl); omega
theorem StepD.below (k : StepD w s w' s') (h : DiskIs w B s) : Below B w w' := k.moved.below (fun i hi => (h.foot hi).1) h.le
theorem FileIs.move {f : FileM} (h : FileIs w B f) (hp : w'.heap[f.p]? = w.heap[f.p]?) (hv : ∀ k, f.v.ownBlock = some k → w'.heap[k]? = w.heap[k]?) : FileIs w' B f := ⟨h.pB, hp.trans h.head, h.row.move hv⟩
theorem owns_move {n : Nat} {m : Nat} {D : DataW Nat} (h : w.ownsMap Try.prog 9 ptrE m n D) (hm : w'.heap[m]? = w.heap[m]?) : w'.ownsMap Try.prog 9 ptrE m n D := by
  obtain ⟨es, clock, hb, r⟩ := h
  exact ⟨es, clock, hm.trans hb, r⟩
theorem DiskIs.move (h : DiskIs w B s) (hm : ∀ k, Foot20 s k → w'.heap[k]? = w.heap[k]?) : DiskIs w' B s :=
  ⟨h.dB, h.mB, (hm _ (.inl rfl)).trans h.head, owns_move h.map (hm _ (.inr (.inl rfl))), fun f hf => (h.file f hf).move (hm _ (.inr (.inr ⟨f, hf, .inl rfl⟩))) (fun k hk => hm _ (.inr (.inr ⟨f, hf, .inr hk⟩))), h.apart⟩
theorem DiskIs.below (h : DiskIs w B s) (hb : Below w.heap.size w w') : DiskIs w' B s := h.move fun k hk => hb.block k (h.foot hk).2
theorem DiskIs.drewN (h : DiskIs w B s) (n : Nat) : DiskIs (w.drewN n) B s := h.move fun _ _ => rfl
theorem DiskIs.drew (h : DiskIs w B s) : DiskIs w.drew B s := h.move fun _ _ => rfl
theorem DiskIs.alloc (h : DiskIs w B s) (o : Obj) : DiskIs (w.alloc o) B s := h.move fun k hk => Below.heap_alloc w o k (h.foot hk).2
/-- The blocks of a disk are apart, by what lies in them. -/
theorem DiskIs.dm (h : DiskIs w B s) : s.d ≠ s.m := fun e => by
  obtain ⟨es, clock, hb, _⟩ := h.map
  have := h.head
  rw [e, hb] at this
  cases this
theorem DiskIs.df (h : DiskIs w B s) {f : FileM} (hf : f ∈ s.L) : f.p ≠ s.d := fun e => by
  have h1 := (h.file f hf).head
  rw [e, h.head] at h1
  injection h1 with h1
  injection h1 with _ h1
  cases h1
theorem DiskIs.mf (h : DiskIs w B s) {f : FileM} (hf : f ∈ s.L) : f.p ≠ s.m := fun e => by
  obtain ⟨es, clock, hb, _⟩ := h.map
  have h1 := (h.file f hf).head
  rw [e, hb] at h1
  cases h1
theorem DiskIs.dr (h : DiskIs w B s) {f : FileM} (hf : f ∈ s.L) {k : Nat} (hk : f.v.ownBlock = some k) : k ≠ s.d := fun e => by
  obtain ⟨_, _, cur, hc⟩ := (h.file f hf).row.typed k hk
  rw [e, h.head] at hc
  injection hc with hc
  injection hc with _ hc
  cases hc
theorem DiskIs.mr (h : DiskIs w B s) {f : FileM} (hf : f ∈ s.L) {k : Nat} (hk : f.v.ownBlock = some k) : k ≠ s.m := fun e => by
  obtain ⟨_, _, cur, hc⟩ := (h.file f hf).row.typed k hk
  obtain ⟨es, clock, hb, _⟩ := h.map
  rw [e, hb] at hc
  cases hc
theorem DiskIs.fr (h : DiskIs w B s) {f g : FileM} (hf : f ∈ s.L) (hg : g ∈ s.L) {k : Nat} (hk : f.v.ownBlock = some k) : k ≠ g.p := fun e => by
  obtain ⟨_, _, cur, hc⟩ := (h.file f hf).row.typed k hk
  rw [e, (h.file g hg).head] at hc
  injection hc with hc
  injection hc with _ hc
  cases hc
/-- One file, and the head, have been written. -/
theorem DiskIs.upd (h : DiskIs w B s) {L1 L2 : List FileM} {f f' : FileM} (hL : s.L = L1 ++ f :: L2) (hd : s'.d = s.d) (hm : s'.m = s.m) (hs' : s'.L = L1 ++ f' :: L2) (hn : f'.name = f.name) (hp : f'.p = f.p)
    (hhead : w'.heap[s.d]? = some (.cells (cellsD s') 58 (0, 0))) (hfile : FileIs w' B f') (hat : ∀ k, f'.v.ownBlock = some k → f.v.ownBlock = some k ∨ w.heap.size ≤ k)
    (hmv : ∀ k, Foot20 s k → k ≠ s.d → k ≠ f.p → f.v.ownBlock ≠ some k → w'.heap[k]? = w.heap[k]?) : DiskIs w' B s' ∧ ∀ k, Foot20 s' k → Foot20 s k ∨ w.heap.size ≤ k := by
  have hfm : f ∈ s.L := by rw [hL]; simp
  have hap := h.apart
  rw [hL] at hap
  obtain ⟨ap1, ap2, ap3⟩ := List.pairwise_append.1 hap
  obtain ⟨ap4, ap5⟩ := List.pairwise_cons.1 ap2
  have oth : ∀ g, g ∈ L1 ∨ g ∈ L2 → g ∈ s.L ∧ ApartF f g := fun g hg => by
    rcases hg with hg | hg
    · exact ⟨by rw [hL]; simp [hg], (ap3 g hg f (by simp)).symm⟩
    · exact ⟨by rw [hL]; simp [hg], ap4 g hg⟩
  have hnew : ∀ g, g ∈ L1 ∨ g ∈ L2 → ApartF f' g := fun g hg => by
    obtain ⟨hgm, hfg⟩ := oth g hg
    refine ⟨by rw [hp]; exact hfg.1, fun k hk hk2 => ?_⟩
    rcases hat k hk with h1 | h1
    · exact hfg.2 k h1 hk2
    · have := (h.foot (k := k) (.inr (.inr ⟨g, hgm, .inr hk2⟩))).2
      omega
  have hfile' : ∀ g, g ∈ L1 ∨ g ∈ L2 → FileIs w' B g := fun g hg => by
    obtain ⟨hgm, hfg⟩ := oth g hg
    refine (h.file g hgm).move (hmv _ (.inr (.inr ⟨g, hgm, .inl rfl⟩)) (h.df hgm) (fun e => hfg.1 e.symm) (fun e => h.fr hfm hgm e rfl)) (fun k hk => ?_)
    exact hmv _ (.inr (.inr ⟨g, hgm, .inr hk⟩)) (h.dr hgm hk) (h.fr hgm hfm hk) (fun e => hfg.2 k e hk)
  have hent : s'.L.map entE = s.L.map entE := by rw [hs', hL]; simp [entE, hn, hp]
  refine ⟨⟨by rw [hd]; exact h.dB, by rw [hm]; exact h.mB, by rw [hd]; exact hhead, ?_, fun g hg => ?_, ?_⟩, fun k hk => ?_⟩
  · rw [hent, show s'.L.length = s.L.length by rw [hs', hL]; simp, hm]
    exact owns_move h.map (hmv _ (.inr (.inl rfl)) (fun e => h.dm e.symm) (fun e => h.mf hfm e.symm) (fun e => h.mr hfm e rfl))
  · rw [hs'] at hg
    rcases List.mem_append.1 hg with hg | hg
    · exact hfile' g (.inl hg)
    · rcases List.mem_cons.1 hg with rfl | hg
      · exact hfile
      · exact hfile' g (.inr hg)
  · rw [hs']
    refine List.pairwise_append.2 ⟨ap1, List.pairwise_cons.2 ⟨fun g hg => hnew g (.inr hg), ap5⟩, fun a ha b hb => ?_⟩
    rcases List.mem_cons.1 hb with rfl | hb
    · exact (hnew a (.inl ha)).symm
    · exact ap3 a ha b (List.mem_cons_of_mem _ hb)
  · rcases hk with rfl | rfl | ⟨g, hg, hk⟩
    · exact .inl (.inl hd)
    · exact .inl (.inr (.inl hm))
    · rw [hs'] at hg
      have hcase : (g ∈ L1 ∨ g ∈ L2) ∨ g = f' := by
        rcases List.mem_append.1 hg with hg | hg
        · exact .inl (.inl hg)
        · rcases List.mem_cons.1 hg with hg | hg
          · exact .inr hg
          · exact .inl (.inr hg)
      rcases hcase with hg | rfl
      · exact .inl (.inr (.inr ⟨g, (oth g hg).1, hk⟩))
      · rcases hk with rfl | hk
        · exact .inl (.inr (.inr ⟨f, hfm, .inl hp⟩))
        · rcases hat k hk with h1 | h1
          · exact .inl (.inr (.inr ⟨f, hfm, .inr h1⟩))
          · exact .inr h1
/-- The head alone has been written. -/
theorem DiskIs.headed (h : DiskIs w B s) (hd : s'.d = s.d) (hm : s'.m = s.m) (hL : s'.L = s.L) (hhead : w'.heap[s.d]? = some (.cells (cellsD s') 58 (0, 0))) (hmv : ∀ k, k < w.heap.size → k ≠ s.d → w'.heap[k]? = w.heap[k]?) : DiskIs w' B s' ∧ ∀ k, Foot20 s' k → Foot20 s k ∨ w.heap.size ≤ k := by
  refine ⟨⟨by rw [hd]; exact h.dB, by rw [hm]; exact h.mB, by rw [hd]; exact hhead, by rw [hL, hm]; exact owns_move h.map (hmv _ h.map.lt (fun e => h.dm e.symm)), fun f hf => ?_, by rw [hL]; exact h.apart⟩, fun k hk => .inl ?_⟩
  · rw [hL] at hf
    exact (h.file f hf).move (hmv _ (h.foot (.inr (.inr ⟨f, hf, .inl rfl⟩))).2 (h.df hf)) (fun k hk => hmv _ (h.foot (.inr (.inr ⟨f, hf, .inr hk⟩))).2 (h.dr hf hk))
  · rcases hk with rfl | rfl | ⟨g, hg, hk⟩
    · exact .inl hd
    · exact .inr (.inl hm)
    · exact .inr (.inr ⟨g, by rw [← hL]; exact hg, hk⟩)
/-- A new set of files out of the old ones, and perhaps new ones in new blocks; the map and the head have been written. -/
theorem DiskIs.remap (h : DiskIs w B s) (hd : s'.d = s.d) (hm : s'.m = s.m) (hhead : w'.heap[s.d]? = some (.cells (cellsD s') 58 (0, 0)))
    (hmap : w'.ownsMap Try.prog 9 ptrE s.m s'.L.length (.map (s'.L.map entE))) (hap : s'.L.Pairwise ApartF)
    (hfile : ∀ f ∈ s'.L, (∃ g ∈ s.L, f.p = g.p ∧ f.v = g.v ∧ f.bs = g.bs ∧ f.fast = g.fast) ∨ (FileIs w' B f ∧ w.heap.size ≤ f.p ∧ ∀ k, f.v.ownBlock = some k → w.heap.size ≤ k))
    (hmv : ∀ k, k < w.heap.size → k ≠ s.d → k ≠ s.m → w'.heap[k]? = w.heap[k]?) : DiskIs w' B s' ∧ ∀ k, Foot20 s' k → Foot20 s k ∨ w.heap.size ≤ k := by
  refine ⟨⟨by rw [hd]; exact h.dB, by rw [hm]; exact h.mB, by rw [hd]; exact hhead, by rw [hm]; exact hmap, fun f hf => ?_, hap⟩, fun k hk => ?_⟩
  · rcases hfile f hf with ⟨g, hg, e1, e2, e3, e4⟩ | ⟨hF, _⟩
    · have := (h.file g hg).move (w' := w') (hmv _ (h.foot (.inr (.inr ⟨g, hg, .inl rfl⟩))).2 (h.df hg) (h.mf hg)) (fun k hk => hmv _ (h.foot (.inr (.inr ⟨g, hg, .inr hk⟩))).2 (h.dr hg hk) (h.mr hg hk))
      exact ⟨by rw [e1]; exact this.pB, by rw [e1, e2, e4]; exact this.head, by rw [e2, e3]; exact this.row⟩
    · exact hF
  · rcases hk with rfl | rfl | ⟨f, hf, hk⟩
    · exact .inl (.inl hd)
    · exact .inl (.inr (.inl hm))
    · rcases hfile f hf with ⟨g, hg, e1, e2, e3, e4⟩ | ⟨_, h1, h2⟩
      · exact .inl (.inr (.inr ⟨g, hg, by rw [← e1, ← e2]; exact hk⟩))
      · rcases hk with rfl | hk
        · exact .inr h1
        · exact .inr (h2 k hk)
end
/-! ### the map's datum and the list of files -/
def insF (f : FileM) : List FileM → List FileM
  | [] => [f]
  | g :: r => if bytesBefore f.name g.name then f :: g :: r else g :: insF f r
def delF (n : List UInt8) (L : List FileM) : List FileM := L.filter fun f => !(f.name == n)
def getF (n : List UInt8) (L : List FileM) : Option FileM := L.find? fun f => f.name == n
theorem insF_perm (f : FileM) : ∀ L, (insF f L).Perm (f :: L)
  | [] => List.Perm.refl _
  | g :: r => by
    unfold insF
    split
    · exact List.Perm.refl _
    · exact ((insF_perm f r).cons g).trans (List.Perm.swap f g r)
theorem insert_ent (f : FileM) : ∀ L : List FileM, DataW.insert (entE f) (L.map entE) = (insF f L).map entE
  | [] => rfl
  | g :: r => by
    simp only [List.map_cons, DataW.insert, insF]
    show (if bytesBefore f.name g.name = true then _ else _) = _
    split
    · rfl
    · rw [insert_ent f r]; rfl
theorem sameKey_str (a b : List UInt8) : (Lit.string a).sameKey (.string b) = (a == b) := rfl
theorem filter_ent (n : List UInt8) (L : List FileM) : (L.map entE).filter (fun p => !p.1.sameKey (.string n)) = (delF n L).map entE := by
  unfold delF
  rw [List.filter_map]
  rfl
theorem del_ent (n : List UInt8) (L : List FileM) : (DataW.map (L.map entE)).del (.string n) = .map ((delF n L).map entE) := by
  show DataW.map _ = _
  rw [filter_ent]
theorem put_ent (f : FileM) (L : List FileM) : (DataW.map (L.map entE)).put (.string f.name) (.held f.p) = .map ((insF f (delF f.name L)).map entE) := by
  show DataW.map _ = _
  rw [filter_ent, ← insert_ent]
  rfl
theorem find_ent (n : List UInt8) : ∀ L : List FileM, (L.map entE).find? (fun p => p.1.sameKey (.string n)) = (getF n L).map entE
  | [] => rfl
  | f :: r => by
    unfold getF
    rw [List.map_cons, List.find?_cons, List.find?_cons]
    show (match (f.name == n) with | true => _ | false => _) = _
    cases hf : (f.name == n) with
    | true => rfl
    | false => exact find_ent n r
theorem atKey_ent (n : List UInt8) (L : List FileM) : (DataW.map (L.map entE)).atKey (.string n) .nil = match getF n L with | some f => .held f.p | none => .nil := by
  simp only [DataW.atKey, find_ent]
  cases getF n L <;> rfl
theorem ptrE_inv {v : Value} {D : DataW Nat} {ps : List MemPlace} (h : ptrE v = some (D, ps)) : (∃ p, v = .pointer (some ⟨p, 0, none⟩) ∧ D = .held p) ∨ (v = .pointer none ∧ D = .nil) := by
  unfold ptrE at h
  split at h
  · cases h; exact .inl ⟨_, rfl, rfl⟩
  · cases h; exact .inr ⟨rfl, rfl⟩
  · cases h
def ptrOf : Option FileM → Value
  | some f => .pointer (some ⟨f.p, 0, none⟩)
  | none => .pointer none
theorem zeroP (w : World) : (zeroValue 60).run Try.prog w = .ok (.pointer none) w := by kernel_rfl
/-- d.files[name] -/
theorem look_run {w : World} {m n : Nat} {L : List FileM} (h : w.ownsMap Try.prog 9 ptrE m n (.map (L.map entE))) (nm : ByteArray) (hs : nm.size ≤ maxLen) :
    (Instr.lookup 56 (.map (some m)) (.string nm) false).run Try.prog w = .ok (ptrOf (getF nm.data.toList L)) w := by
  obtain ⟨v, ps, hrun, hv⟩ := h.lookup (Maps.string_keyed Try.underlying9) Try.underlying56 (zeroP w) (zd := .nil) (zp := []) rfl (key := .string nm) (WideMaps.keyOf_string_mk Try.underlying9 hs)
  rw [atKey_ent] at hv
  rw [hrun]
  cases hg : getF nm.data.toList L with
  | none =>
    rw [hg] at hv
    rcases ptrE_inv hv with ⟨p, _, h2⟩ | ⟨rfl, _⟩
    · cases h2
    · rfl
  | some f =>
    rw [hg] at hv
    simp only at hv
    rcases ptrE_inv hv with ⟨p, rfl, h2⟩ | ⟨_, h2⟩
    · have hp : f.p = p := by injection h2
      rw [← hp]
      simp only [ptrOf]
    · cases h2
/-- d.files[name] = f, at the operation. -/
theorem wpList_put_d {w : World} {ops : Array Oper} {rest : List Oper} {o : Oper} {a : Act} {Q : Exit → Act → World → Prop} (hgd : o.guard = none) (x y z : Operand) (ho : o.op = .mapUpdate 56 x y z)
    (m n : Nat) (L : List FileM) (hx : a.eval x = .map (some m)) (hown : w.ownsMap Try.prog 9 ptrE m n (.map (L.map entE))) (hn : n ≤ 2000000) (nm : ByteArray) (hs : nm.size ≤ maxLen) (p : Nat) (hy : a.eval y = .string nm) (hz : a.eval z = .pointer (some ⟨p, 0, none⟩))
    (h : ∀ w', w'.ownsMap Try.prog 9 ptrE m (n + 1) ((DataW.map (L.map entE)).put (.string nm.data.toList) (.held p)) → w.grownBy w' (some m) → wpList Try.prog ops Q rest (a.put o.dst undef) w') : wpList Try.prog ops Q (o :: rest) a w :=
  wpList_mapUpdate_own w hgd x y z 56 ho 9 60 (Maps.string_keyed Try.underlying9) Try.underlying56 ptrE m n (.map (L.map entE)) hx hown (by unfold maxLen; omega) (.string nm) (.pointer (some ⟨p, 0, none⟩)) (.string nm.data.toList) hy hz (WideMaps.keyOf_string_mk Try.underlying9 hs) (.held p) [] rfl h
/-- delete(d.files, name), at the operation. -/
theorem wpList_del_d {w : World} {ops : Array Oper} {rest : List Oper} {o : Oper} {a : Act} {Q : Exit → Act → World → Prop} (hgd : o.guard = none) (x y : Operand) (ho : o.op = .call { callee := .builtin .delete, args := #[x, y], argTypes := #[56, 9] })
    (m n : Nat) (L : List FileM) (hx : a.eval x = .map (some m)) (hown : w.ownsMap Try.prog 9 ptrE m n (.map (L.map entE))) (nm : ByteArray) (hs : nm.size ≤ maxLen) (hy : a.eval y = .string nm)
    (h : ∀ w', w'.ownsMap Try.prog 9 ptrE m n (.map ((delF nm.data.toList L).map entE)) → w.grownBy w' (some m) → wpList Try.prog ops Q rest (a.put o.dst (.tuple #[])) w') : wpList Try.prog ops Q (o :: rest) a w :=
  wpList_delete_own w hgd x y 56 9 ho 60 (Maps.string_keyed Try.underlying9) Try.underlying56 ptrE m n (.map (L.map entE)) hx hown (.string nm) (.string nm.data.toList) hy (WideMaps.keyOf_string_mk Try.underlying9 hs) (fun w' h1 h2 => h w' (by rw [← del_ent]; exact h1) h2.grown)
theorem getF_some {n : List UInt8} {L : List FileM} {f : FileM} (h : getF n L = some f) : ∃ L1 L2, L = L1 ++ f :: L2 ∧ f.name = n ∧ ∀ g ∈ L1, g.name ≠ n := by
  obtain ⟨h1, L1, L2, h2, h3⟩ := List.find?_eq_some_iff_append.1 h
  exact ⟨L1, L2, h2, by simpa using h1, fun g hg e => by have := h3 g hg; simp [e] at this⟩
theorem getF_none {n : List UInt8} {L : List FileM} (h : getF n L = none) : ∀ g ∈ L, g.name ≠ n := fun g hg e => by
  have := List.find?_eq_none.1 h g hg
  simp [e] at this
theorem delF_none {n : List UInt8} {L : List FileM} (h : ∀ g ∈ L, g.name ≠ n) : delF n L = L := List.filter_eq_self.2 fun g hg => by simp [h g hg]
end Go.Proofs.Ytlbeehefandfhaa.Pr
