/- A part of the proof of the law that RowDiskActs shows: lemmas, and contracts of the calls that it reaches. -/
import Derived.Test.YtlbeehefandfhaaProg
import Derived.Below
import Derived.Deep.Draws
import Derived.Deep.AppendLies
import Derived.Maps.AppendAt
import Derived.OwnWalk
import Derived.Laws.BytesArg
import Derived.Laws.MakeOwn
import Derived.Laws.OwnMore
import Derived.Deep.OwnRows
import Derived.Tactics
import Derived.Lib.ConvBytes
import Derived.Laws.Slices
import Derived.WalkKit
import Derived.KernelRfl
import Derived.RowKit3
import Derived.Deep.LoopGhost
import Derived.Deep.QuietTactic
import Derived.BigQuiet
import Derived.WideLaws
import Derived.Deep.DeepCutAuto
import Derived.Deep.CutBlock
import Derived.Deep.RegionHeld3
import Derived.Laws.Rows
import Derived.Lib.AppendStr
import Derived.ArgAppend
import Derived.Laws.IdiomCopy
import Derived.OrdersHeld
import Derived.Laws.BitsLemmas
import Derived.RowKit
import Derived.Test.YtlbeehefandfhaaZDA0
import Derived.Test.YtlbeehefandfhaaZDA5
import Derived.Test.YtlbeehefandfhaaZDA6
import Derived.Test.YtlbeehefandfhaaZDA2
import Derived.ProofKit
import Derived.OpenShut
import Derived.SizedLaws
set_option linter.unusedVariables false
set_option linter.unusedSimpArgs false
section
namespace Go.Proofs.Ytlbeehefandfhaa.Pr
open Go.RowKit Go.Maps Go.Sort Go.Proofs.YtlbeehefandfhaaW.PrintWords Go.Proofs.YtlbeehefandfhaaW.PrintLast Go.Proofs.YtlbeehefandfhaaW.PrintMore
def Pair (w0 : World) (p q : PD) (d rd : Nat) (w : World) : Prop :=
  ∃ s r, DiskIs w w0.heap.size s ∧ Good s ∧ s.abs = p ∧ s.d = d ∧ RefIs w w0.heap.size r ∧ GoodR r ∧ r.abs = q ∧ r.d = rd ∧ (∀ k, Foot20 s k → ¬ FootR r k) ∧ Below w0.heap.size w0 w
def PairM (W w0 : World) (p q : PD) (d rd : Nat) (w : World) : Prop :=
  ∃ s r, DiskIs w w0.heap.size s ∧ Good s ∧ s.abs = p ∧ s.d = d ∧ RefIs w w0.heap.size r ∧ GoodR r ∧ r.abs = q ∧ r.d = rd ∧ (∀ k, Foot20 s k → ¬ FootR r k) ∧ (∀ k, FootR r k → k < W.heap.size) ∧ Below w0.heap.size w0 w
theorem Pair.below {w0 w w' : World} {p q : PD} {d rd : Nat} (h : Pair w0 p q d rd w) (hb : Below w.heap.size w w') : Pair w0 p q d rd w' := by
  obtain ⟨s, r, h1, h2, h3, h4, h5, h6, h7, h8, h9, h10⟩ := h
  exact ⟨s, r, h1.below hb, h2, h3, h4, h5.below hb, h6, h7, h8, h9, h10.trans (hb.mono h1.le)⟩
theorem PairM.below {W w0 w w' : World} {p q : PD} {d rd : Nat} (h : PairM W w0 p q d rd w) (hb : Below w.heap.size w w') : PairM W w0 p q d rd w' := by
  obtain ⟨s, r, h1, h2, h3, h4, h5, h6, h7, h8, h9, h9b, h10⟩ := h
  exact ⟨s, r, h1.below hb, h2, h3, h4, h5.below hb, h6, h7, h8, h9, h9b, h10.trans (hb.mono h1.le)⟩
theorem Pair.old {w0 w : World} {p q : PD} {d rd : Nat} (h : Pair w0 p q d rd w) : Below w0.heap.size w0 w := by
  obtain ⟨s, r, h1, h2, h3, h4, h5, h6, h7, h8, h9, h10⟩ := h
  exact h10
theorem PairM.old {W w0 w : World} {p q : PD} {d rd : Nat} (h : PairM W w0 p q d rd w) : Below w0.heap.size w0 w := by
  obtain ⟨s, r, h1, h2, h3, h4, h5, h6, h7, h8, h9, h9b, h10⟩ := h
  exact h10
theorem Pair.diskAt {w0 w : World} {p q : PD} {d rd : Nat} (h : Pair w0 p q d rd w) : DiskAt w0 p d w := by
  obtain ⟨s, r, h1, h2, h3, h4, h5, h6, h7, h8, h9, h10⟩ := h
  exact ⟨s, h1, h2, h3, h4, h10⟩
theorem Pair.callD2 {w0 W w : World} {p q p' : PD} {d rd : Nat} (h : Pair w0 p q d rd W) (hb : Below W.heap.size W w) {f : FuncId} {args : Array Value} {v : Value}
    (hc : ∀ s, DiskIs W w0.heap.size s → DiskIs w w0.heap.size s → Good s → s.abs = p → s.d = d → Calls Try.prog f args w fun e w' => e = .returned v ∧ ∃ s', DiskIs w' w0.heap.size s' ∧ StepD w s w' s' ∧ Good s' ∧ s'.abs = p' ∧ s'.d = s.d) :
    Calls Try.prog f args w fun e w' => e = .returned v ∧ PairM W w0 p' q d rd w' ∧ ∀ k, W.heap.size ≤ k → k < w.heap.size → w'.heap[k]? = w.heap[k]? := by
  obtain ⟨s, r, h1, h2, h3, h4, h5, h6, h7, h8, h9, h10⟩ := h
  refine (hc s h1 (h1.below hb) h2 h3 h4).mono ?_
  rintro e w' ⟨he, s', hd, hst, hgd, hab, hdd⟩
  have hR := h5.below hb
  have hmv : ∀ k, FootR r k → w'.heap[k]? = w.heap[k]? := fun k hk => hst.moved.block k (hR.foot hk).2 (fun hf => h9 k hf hk)
  refine ⟨he, ⟨s', r, hd, hgd, hab, hdd.trans h4, hR.move hmv, h6, h7, h8, fun k hk hk2 => ?_, fun k hk => (h5.foot hk).2, ?_⟩, fun k hk1 hk2 => hst.moved.block k hk2 (fun hf => by have := (h1.foot hf).2; omega)⟩
  · rcases hst.foot k hk with h | h
    · exact h9 k h hk2
    · have := (hR.foot hk2).2
      omega
  · exact (h10.trans (hb.mono h1.le)).trans (hst.below (h1.below hb))
theorem Pair.callD {w0 W w : World} {p q p' : PD} {d rd : Nat} (h : Pair w0 p q d rd W) (hb : Below W.heap.size W w) {f : FuncId} {args : Array Value} {v : Value}
    (hc : ∀ s, DiskIs W w0.heap.size s → DiskIs w w0.heap.size s → Good s → s.abs = p → s.d = d → Calls Try.prog f args w fun e w' => e = .returned v ∧ ∃ s', OpDone w w0.heap.size s p' w' s') :
    Calls Try.prog f args w fun e w' => e = .returned v ∧ PairM W w0 p' q d rd w' ∧ ∀ k, W.heap.size ≤ k → k < w.heap.size → w'.heap[k]? = w.heap[k]? :=
  h.callD2 hb (fun s h1 h2 g e1 e2 => (hc s h1 h2 g e1 e2).mono fun e w' ⟨he, s', hO⟩ => ⟨he, s', hO.disk, hO.step, hO.good, hO.abs, hO.d⟩)
theorem PairM.callR {w0 W w : World} {p q q' : PD} {d rd : Nat} (h : PairM W w0 p q d rd w) (hW : W.heap.size ≤ w.heap.size) (hw : q' = p) (hn : q'.F.length ≤ 1000000) {f : FuncId} {args : Array Value} {v : Value}
    (hc : ∀ r, RefIs w w0.heap.size r → GoodR r → r.abs = q → r.d = rd → Calls Try.prog f args w fun e w' => e = .returned v ∧ ∃ r', RefDone w w0.heap.size r q' w' r') :
    Calls Try.prog f args w fun e w' => e = .returned v ∧ Pair w0 p q' d rd w' ∧ ∀ k, W.heap.size ≤ k → k < w.heap.size → w'.heap[k]? = w.heap[k]? := by
  obtain ⟨s, r, h1, h2, h3, h4, h5, h6, h7, h8, h9, h9b, h10⟩ := h
  refine (hc r h5 h6 h7 h8).mono ?_
  rintro e w' ⟨he, r', hO⟩
  have hmv : ∀ k, Foot20 s k → w'.heap[k]? = w.heap[k]? := fun k hk => hO.step.moved.block k (h1.foot hk).2 (fun hf => h9 k hk hf)
  refine ⟨he, ⟨s, r', h1.move hmv, h2, h3, h4, hO.ref, ⟨by rw [hO.abs, hw, ← h3]; exact h2.wf, by rw [← hO.abs] at hn; simpa [RefM.abs] using hn⟩, hO.abs, hO.d.trans h8, fun k hk hk2 => ?_, ?_⟩, fun k hk1 hk2 => hO.step.moved.block k hk2 (fun hf => by have := h9b k hf; omega)⟩
  · rcases hO.step.foot k hk2 with h | h
    · exact h9 k hk h
    · have := (h1.foot hk).2
      omega
  · exact h10.trans (hO.step.below h5)
theorem fillL_length (size : Int) (l : List Int) (keep : Int) : ∀ (F : List PF) (u : Int), (fillL size l keep F u).length = F.length
  | [], _ => rfl
  | f :: F, u => by
    unfold fillL
    split
    · rw [List.length_cons, fillL_length size l keep F, List.length_cons]
    · rw [List.length_cons, fillL_length size l keep F, List.length_cons]
theorem delP_length (n : List UInt8) (F : List PF) : (delP n F).length ≤ F.length := List.length_filter_le _ _
theorem insP_length (f : PF) (F : List PF) : (insP f F).length = F.length + 1 := by rw [(insP_perm _ _).length_eq]; rfl
theorem len_append (p : PD) (n : List UInt8) (l : List Int) : (pAppend p n l).1.F.length ≤ p.F.length + 1 := by
  unfold pAppend
  split
  · exact Nat.le_succ _
  · split
    · exact Nat.le_succ _
    · split
      · exact Nat.le_succ _
      · show (match getP n p.F with | some _ => updP n _ p.F | none => insP ⟨n, l, 0⟩ p.F).length ≤ _
        split
        · rw [updP_length]; exact Nat.le_succ _
        · rw [insP_length]; exact Nat.le_refl _
theorem len_sync (p : PD) (n : List UInt8) : (pSync p n).1.F.length ≤ p.F.length + 1 := by
  unfold pSync
  split
  · exact Nat.le_succ _
  · split
    · exact Nat.le_succ _
    · show (updP n _ p.F).length ≤ _
      rw [updP_length]; exact Nat.le_succ _
theorem len_truncate (p : PD) (n : List UInt8) (k : Int) : (pTruncate p n k).1.F.length ≤ p.F.length + 1 := by
  unfold pTruncate
  split
  · exact Nat.le_succ _
  · split
    · exact Nat.le_succ _
    · split
      · exact Nat.le_succ _
      · show (updP n _ p.F).length ≤ _
        rw [updP_length]; exact Nat.le_succ _
theorem len_rename (p : PD) (a b : List UInt8) : (pRename p a b).1.F.length ≤ p.F.length + 1 := by
  unfold pRename
  split
  · exact Nat.le_succ _
  · split
    · exact Nat.le_succ _
    · split
      · exact Nat.le_succ _
      · split
        · exact Nat.le_succ _
        · show (insP _ (delP a (delP b p.F))).length ≤ _
          rw [insP_length]
          have h1 := delP_length a (delP b p.F)
          have h2 := delP_length b p.F
          omega
theorem len_remove (p : PD) (n : List UInt8) : (pRemove p n).1.F.length ≤ p.F.length + 1 := by
  unfold pRemove
  split
  · exact Nat.le_succ _
  · split
    · exact Nat.le_succ _
    · show (delP n p.F).length ≤ _
      exact Nat.le_trans (delP_length _ _) (Nat.le_succ _)
theorem len_crash (p : PD) (keep : Int) (l : List Int) : (pCrash p keep l).F.length ≤ p.F.length + 1 := by
  show (fillL _ _ _ p.F _).length ≤ _
  rw [fillL_length]
  exact Nat.le_succ _
section
variable {w0 W w : World} {p q : PD} {d rd : Nat}
theorem many_s {s : DiskM} (e : s.abs = p) (h : p.F.length ≤ 1000000) : s.L.length ≤ 1000000 := by rw [← e] at h; simpa [DiskM.abs] using h
theorem Pair.append (h : Pair w0 p q d rd W) (hb : Below W.heap.size W w) (hN : p.F.length ≤ 1000000) (nm : ByteArray) (hs : nm.size ≤ maxLen) (A : Option Addr) (c : Nat) (l : List Int) (hY : Young W w A c l) :
    Calls Try.prog 9 #[.pointer (some ⟨d, 0, none⟩), .string nm, .slice A l.length c] w fun e w' => e = .returned (.int .i64 (pAppend p nm.data.toList l).2) ∧ PairM W w0 ((pAppend p nm.data.toList l).1) q d rd w' ∧ ∀ k, W.heap.size ≤ k → k < w.heap.size → w'.heap[k]? = w.heap[k]? :=
  h.callD hb (f := 9) (args := #[.pointer (some ⟨d, 0, none⟩), .string nm, .slice A l.length c]) (v := .int .i64 (pAppend p nm.data.toList l).2) (p' := (pAppend p nm.data.toList l).1)
    (fun s h1 h2 g e1 e2 => by have hL := many_s e1 hN; rw [← e1, ← e2]; exact append_calls w w0.heap.size s h2 g nm hs A c l (hY.src h1) hL)
theorem Pair.sync (h : Pair w0 p q d rd W) (hb : Below W.heap.size W w) (nm : ByteArray) (hs : nm.size ≤ maxLen) :
    Calls Try.prog 10 #[.pointer (some ⟨d, 0, none⟩), .string nm] w fun e w' => e = .returned (.int .i64 (pSync p nm.data.toList).2) ∧ PairM W w0 ((pSync p nm.data.toList).1) q d rd w' ∧ ∀ k, W.heap.size ≤ k → k < w.heap.size → w'.heap[k]? = w.heap[k]? :=
  h.callD hb (f := 10) (args := #[.pointer (some ⟨d, 0, none⟩), .string nm]) (v := .int .i64 (pSync p nm.data.toList).2) (p' := (pSync p nm.data.toList).1)
    (fun s h1 h2 g e1 e2 => by rw [← e1, ← e2]; exact sync_calls w w0.heap.size s h2 g nm hs)
theorem Pair.truncate (h : Pair w0 p q d rd W) (hb : Below W.heap.size W w) (nm : ByteArray) (hs : nm.size ≤ maxLen) (k : Int) (hk1 : -9223372036854775808 ≤ k) (hk2 : k ≤ 9223372036854775807) :
    Calls Try.prog 14 #[.pointer (some ⟨d, 0, none⟩), .string nm, .int .i64 k] w fun e w' => e = .returned (.int .i64 (pTruncate p nm.data.toList k).2) ∧ PairM W w0 ((pTruncate p nm.data.toList k).1) q d rd w' ∧ ∀ k, W.heap.size ≤ k → k < w.heap.size → w'.heap[k]? = w.heap[k]? :=
  h.callD hb (f := 14) (args := #[.pointer (some ⟨d, 0, none⟩), .string nm, .int .i64 k]) (v := .int .i64 (pTruncate p nm.data.toList k).2) (p' := (pTruncate p nm.data.toList k).1)
    (fun s h1 h2 g e1 e2 => by rw [← e1, ← e2]; exact truncate_calls w w0.heap.size s h2 g nm hs k hk1 hk2)
theorem Pair.rename (h : Pair w0 p q d rd W) (hb : Below W.heap.size W w) (hN : p.F.length ≤ 1000000) (na nb : ByteArray) (hs : na.size ≤ maxLen) (hsb : nb.size ≤ maxLen) :
    Calls Try.prog 17 #[.pointer (some ⟨d, 0, none⟩), .string na, .string nb] w fun e w' => e = .returned (.int .i64 (pRename p na.data.toList nb.data.toList).2) ∧ PairM W w0 ((pRename p na.data.toList nb.data.toList).1) q d rd w' ∧ ∀ k, W.heap.size ≤ k → k < w.heap.size → w'.heap[k]? = w.heap[k]? :=
  h.callD hb (f := 17) (args := #[.pointer (some ⟨d, 0, none⟩), .string na, .string nb]) (v := .int .i64 (pRename p na.data.toList nb.data.toList).2) (p' := (pRename p na.data.toList nb.data.toList).1)
    (fun s h1 h2 g e1 e2 => by have hL := many_s e1 hN; rw [← e1, ← e2]; exact rename_calls w w0.heap.size s h2 g na nb hs hsb hL)
theorem Pair.remove (h : Pair w0 p q d rd W) (hb : Below W.heap.size W w) (nm : ByteArray) (hs : nm.size ≤ maxLen) :
    Calls Try.prog 30 #[.pointer (some ⟨d, 0, none⟩), .string nm] w fun e w' => e = .returned (.int .i64 (pRemove p nm.data.toList).2) ∧ PairM W w0 ((pRemove p nm.data.toList).1) q d rd w' ∧ ∀ k, W.heap.size ≤ k → k < w.heap.size → w'.heap[k]? = w.heap[k]? :=
  h.callD hb (f := 30) (args := #[.pointer (some ⟨d, 0, none⟩), .string nm]) (v := .int .i64 (pRemove p nm.data.toList).2) (p' := (pRemove p nm.data.toList).1)
    (fun s h1 h2 g e1 e2 => by rw [← e1, ← e2]; exact remove_calls w w0.heap.size s h2 g nm hs)
theorem Pair.crash (h : Pair w0 p q d rd W) (hb : Below W.heap.size W w) (hN : p.F.length ≤ 1000000) (keep : Int) (hk1 : -9223372036854775808 ≤ keep) (hk2 : keep ≤ 9223372036854775807) (A : Option Addr) (c : Nat) (l : List Int) (hY : Young W w A c l) :
    Calls Try.prog 11 #[.pointer (some ⟨d, 0, none⟩), .int .i64 keep, .slice A l.length c] w fun e w' => e = .returned (.tuple #[]) ∧ PairM W w0 (pCrash p keep l) q d rd w' ∧ ∀ k, W.heap.size ≤ k → k < w.heap.size → w'.heap[k]? = w.heap[k]? :=
  h.callD hb (f := 11) (args := #[.pointer (some ⟨d, 0, none⟩), .int .i64 keep, .slice A l.length c]) (v := .tuple #[]) (p' := pCrash p keep l)
    (fun s h1 h2 g e1 e2 => by have hL := many_s e1 hN; rw [← e1, ← e2]; exact crash_calls w w0.heap.size s h2 g keep hk1 hk2 A c l (hY.src h1) (by omega))
theorem Pair.cut (h : Pair w0 p q d rd W) (hb : Below W.heap.size W w) (n : Int) (hk1 : -9223372036854775808 ≤ n) (hk2 : n ≤ 9223372036854775807) :
    Calls Try.prog 16 #[.pointer (some ⟨d, 0, none⟩), .int .i64 n] w fun e w' => e = .returned (.tuple #[]) ∧ PairM W w0 (pCut p n) q d rd w' ∧ ∀ k, W.heap.size ≤ k → k < w.heap.size → w'.heap[k]? = w.heap[k]? :=
  h.callD2 hb (fun s h1 h2 g e1 e2 => by rw [← e1, ← e2]; exact cut_calls w w0.heap.size s h2 g n hk1 hk2)
theorem PairM.append (nm : ByteArray) (l : List Int) (h : PairM W w0 (pAppend p nm.data.toList l).1 p d rd w) (hW : W.heap.size ≤ w.heap.size) (hN : p.F.length ≤ 999999) (hs : nm.size ≤ maxLen) (A : Option Addr) (c : Nat) (hC : Kd.C (Kd.int .u8) w A l.length l) (hc : l.length ≤ c) (hA : ∀ a, A = some a → l ≠ [] → a.block < w0.heap.size) (hl : l.length ≤ 140737488351232) :
    Calls Try.prog 26 #[.pointer (some ⟨rd, 0, none⟩), .string nm, .slice A l.length c] w fun e w' => e = .returned (.int .i64 (pAppend p nm.data.toList l).2) ∧ Pair w0 ((pAppend p nm.data.toList l).1) ((pAppend p nm.data.toList l).1) d rd w' ∧ ∀ k, W.heap.size ≤ k → k < w.heap.size → w'.heap[k]? = w.heap[k]? :=
  h.callR hW (q' := (pAppend p nm.data.toList l).1) rfl (Nat.le_trans (len_append p _ l) (by omega)) (f := 26) (args := #[.pointer (some ⟨rd, 0, none⟩), .string nm, .slice A l.length c]) (v := .int .i64 (pAppend p nm.data.toList l).2)
    (fun r h1 g e1 e2 => by rw [← e1, ← e2]; exact refAppend_calls w w0.heap.size r h1 g nm hs A c l hC hc hA hl)
theorem PairM.sync (nm : ByteArray) (h : PairM W w0 (pSync p nm.data.toList).1 p d rd w) (hW : W.heap.size ≤ w.heap.size) (hN : p.F.length ≤ 999999) (hs : nm.size ≤ maxLen) :
    Calls Try.prog 27 #[.pointer (some ⟨rd, 0, none⟩), .string nm] w fun e w' => e = .returned (.int .i64 (pSync p nm.data.toList).2) ∧ Pair w0 ((pSync p nm.data.toList).1) ((pSync p nm.data.toList).1) d rd w' ∧ ∀ k, W.heap.size ≤ k → k < w.heap.size → w'.heap[k]? = w.heap[k]? :=
  h.callR hW (q' := (pSync p nm.data.toList).1) rfl (Nat.le_trans (len_sync p _) (by omega)) (f := 27) (args := #[.pointer (some ⟨rd, 0, none⟩), .string nm]) (v := .int .i64 (pSync p nm.data.toList).2)
    (fun r h1 g e1 e2 => by rw [← e1, ← e2]; exact refSync_calls w w0.heap.size r h1 g nm hs)
theorem PairM.truncate (nm : ByteArray) (k : Int) (h : PairM W w0 (pTruncate p nm.data.toList k).1 p d rd w) (hW : W.heap.size ≤ w.heap.size) (hN : p.F.length ≤ 999999) (hs : nm.size ≤ maxLen) (hk1 : -9223372036854775808 ≤ k) (hk2 : k ≤ 9223372036854775807) :
    Calls Try.prog 28 #[.pointer (some ⟨rd, 0, none⟩), .string nm, .int .i64 k] w fun e w' => e = .returned (.int .i64 (pTruncate p nm.data.toList k).2) ∧ Pair w0 ((pTruncate p nm.data.toList k).1) ((pTruncate p nm.data.toList k).1) d rd w' ∧ ∀ k, W.heap.size ≤ k → k < w.heap.size → w'.heap[k]? = w.heap[k]? :=
  h.callR hW (q' := (pTruncate p nm.data.toList k).1) rfl (Nat.le_trans (len_truncate p _ k) (by omega)) (f := 28) (args := #[.pointer (some ⟨rd, 0, none⟩), .string nm, .int .i64 k]) (v := .int .i64 (pTruncate p nm.data.toList k).2)
    (fun r h1 g e1 e2 => by rw [← e1, ← e2]; exact refTruncate_calls w w0.heap.size r h1 g nm hs k hk1 hk2)
theorem PairM.rename (na nb : ByteArray) (h : PairM W w0 (pRename p na.data.toList nb.data.toList).1 p d rd w) (hW : W.heap.size ≤ w.heap.size) (hN : p.F.length ≤ 999999) (hs : na.size ≤ maxLen) (hsb : nb.size ≤ maxLen) :
    Calls Try.prog 29 #[.pointer (some ⟨rd, 0, none⟩), .string na, .string nb] w fun e w' => e = .returned (.int .i64 (pRename p na.data.toList nb.data.toList).2) ∧ Pair w0 ((pRename p na.data.toList nb.data.toList).1) ((pRename p na.data.toList nb.data.toList).1) d rd w' ∧ ∀ k, W.heap.size ≤ k → k < w.heap.size → w'.heap[k]? = w.heap[k]? :=
  h.callR hW (q' := (pRename p na.data.toList nb.data.toList).1) rfl (Nat.le_trans (len_rename p _ _) (by omega)) (f := 29) (args := #[.pointer (some ⟨rd, 0, none⟩), .string na, .string nb]) (v := .int .i64 (pRename p na.data.toList nb.data.toList).2)
    (fun r h1 g e1 e2 => by rw [← e1, ← e2]; exact refRename_calls w w0.heap.size r h1 g na nb hs hsb)
theorem PairM.remove (nm : ByteArray) (h : PairM W w0 (pRemove p nm.data.toList).1 p d rd w) (hW : W.heap.size ≤ w.heap.size) (hN : p.F.length ≤ 999999) (hs : nm.size ≤ maxLen) :
    Calls Try.prog 31 #[.pointer (some ⟨rd, 0, none⟩), .string nm] w fun e w' => e = .returned (.int .i64 (pRemove p nm.data.toList).2) ∧ Pair w0 ((pRemove p nm.data.toList).1) ((pRemove p nm.data.toList).1) d rd w' ∧ ∀ k, W.heap.size ≤ k → k < w.heap.size → w'.heap[k]? = w.heap[k]? :=
  h.callR hW (q' := (pRemove p nm.data.toList).1) rfl (Nat.le_trans (len_remove p _) (by omega)) (f := 31) (args := #[.pointer (some ⟨rd, 0, none⟩), .string nm]) (v := .int .i64 (pRemove p nm.data.toList).2)
    (fun r h1 g e1 e2 => by rw [← e1, ← e2]; exact refRemove_calls w w0.heap.size r h1 g nm hs)
theorem PairM.crash (keep : Int) (l : List Int) (h : PairM W w0 (pCrash p keep l) p d rd w) (hW : W.heap.size ≤ w.heap.size) (hN : p.F.length ≤ 999999) (hk1 : -9223372036854775808 ≤ keep) (hk2 : keep ≤ 9223372036854775807) (A : Option Addr) (c : Nat) (hC : Kd.C (Kd.int .u8) w A l.length l) (hc : l.length ≤ c) (hA : ∀ a, A = some a → l ≠ [] → a.block < w0.heap.size) (hl : l.length ≤ 140737488351232) :
    Calls Try.prog 33 #[.pointer (some ⟨rd, 0, none⟩), .int .i64 keep, .slice A l.length c] w fun e w' => e = .returned (.tuple #[]) ∧ Pair w0 (pCrash p keep l) (pCrash p keep l) d rd w' ∧ ∀ k, W.heap.size ≤ k → k < w.heap.size → w'.heap[k]? = w.heap[k]? :=
  h.callR hW (q' := pCrash p keep l) rfl (Nat.le_trans (len_crash p keep l) (by omega)) (f := 33) (args := #[.pointer (some ⟨rd, 0, none⟩), .int .i64 keep, .slice A l.length c]) (v := .tuple #[])
    (fun r h1 g e1 e2 => by rw [← e1, ← e2]; exact refCrash_calls w w0.heap.size r h1 g keep hk1 hk2 A c l hC hc hA hl)
theorem PairM.cut (n : Int) (h : PairM W w0 (pCut p n) p d rd w) (hW : W.heap.size ≤ w.heap.size) (hN : p.F.length ≤ 1000000) (hk1 : -9223372036854775808 ≤ n) (hk2 : n ≤ 9223372036854775807) :
    Calls Try.prog 32 #[.pointer (some ⟨rd, 0, none⟩), .int .i64 n] w fun e w' => e = .returned (.tuple #[]) ∧ Pair w0 (pCut p n) (pCut p n) d rd w' ∧ ∀ k, W.heap.size ≤ k → k < w.heap.size → w'.heap[k]? = w.heap[k]? :=
  h.callR hW (q' := pCut p n) rfl hN (f := 32) (args := #[.pointer (some ⟨rd, 0, none⟩), .int .i64 n]) (v := .tuple #[])
    (fun r h1 g e1 e2 => by rw [← e1, ← e2]; exact (refCut_calls w w0.heap.size r h1 n hk1 hk2).mono (fun e w' ⟨a, b, c⟩ => ⟨a, _, b, c, rfl, rfl⟩))
end
end Go.Proofs.Ytlbeehefandfhaa.Pr
end
section
namespace Go.Proofs.Ytlbeehefandfhaa.Pr
open Go.RowKit Go.Maps Go.Sort Go.Proofs.YtlbeehefandfhaaW.PrintWords Go.Proofs.YtlbeehefandfhaaW.PrintLast Go.Proofs.YtlbeehefandfhaaW.PrintMore
def actP (p : PD) (kind n : Int) (nm tn : List UInt8) (l : List Int) : PD :=
  if kind = 0 then (pAppend p nm l).1 else if kind = 1 then (pSync p nm).1 else if kind = 2 then (pTruncate p nm n).1 else if kind = 3 then (pRename p nm tn).1 else if kind = 4 then (pRemove p nm).1 else if kind = 5 then pCut p n else if kind = 6 then pCrash p n l else p
theorem len_act (p : PD) (kind n : Int) (nm tn : List UInt8) (l : List Int) : (actP p kind n nm tn l).F.length ≤ p.F.length + 1 := by
  unfold actP
  split
  · exact len_append _ _ _
  · split
    · exact len_sync _ _
    · split
      · exact len_truncate _ _ _
      · split
        · exact len_rename _ _ _
        · split
          · exact len_remove _ _
          · split
            · exact Nat.le_succ _
            · split
              · exact len_crash _ _ _
              · exact Nat.le_succ _
structure BoxIs (w : World) (b : Nat) (kind n : Int) (nm tn : ByteArray) (A : Option Addr) (m c : Nat) : Prop where
  blk : w.heap[b]? = some (.cells #[.int .i64 kind, .int .i64 n, .string nm, .string tn, .slice A m c] 53 (0, 0))
section
variable {w w' : World} {b : Nat} {kind n : Int} {nm tn : ByteArray} {A : Option Addr} {m c : Nat}
theorem BoxIs.c0 (h : BoxIs w b kind n nm tn A m c) : w.cell? ⟨b, 0, none⟩ = some (.int .i64 kind) := by rw [cell_of_row w b 0 _ _ _ h.blk]; rfl
theorem BoxIs.c1 (h : BoxIs w b kind n nm tn A m c) : w.cell? ⟨b, 1, none⟩ = some (.int .i64 n) := by rw [cell_of_row w b 1 _ _ _ h.blk]; rfl
theorem BoxIs.c2 (h : BoxIs w b kind n nm tn A m c) : w.cell? ⟨b, 2, none⟩ = some (.string nm) := by rw [cell_of_row w b 2 _ _ _ h.blk]; rfl
theorem BoxIs.c3 (h : BoxIs w b kind n nm tn A m c) : w.cell? ⟨b, 3, none⟩ = some (.string tn) := by rw [cell_of_row w b 3 _ _ _ h.blk]; rfl
theorem BoxIs.c4 (h : BoxIs w b kind n nm tn A m c) : w.cell? ⟨b, 4, none⟩ = some (.slice A m c) := by rw [cell_of_row w b 4 _ _ _ h.blk]; rfl
end
set_option maxRecDepth 100000 in
set_option maxHeartbeats 2000000 in
theorem does_sync (w0 W : World) (p : PD) (d rd : Nat) (h : Pair w0 p p d rd W) (hN : p.F.length ≤ 999999) (n : Int) (hk1 : -9223372036854775808 ≤ n) (hk2 : n ≤ 9223372036854775807) (nm tn : ByteArray) (hs : nm.size ≤ maxLen) (hst : tn.size ≤ maxLen) (A : Option Addr) (c : Nat) (l : List Int) (hC : Kd.C (Kd.int .u8) W A l.length l) (hc : l.length ≤ c) (hA : ∀ a, A = some a → l ≠ [] → a.block < w0.heap.size) (hl : l.length ≤ 140737488351232) :
    Calls Try.prog 18 #[.pointer (some ⟨d, 0, none⟩), .pointer (some ⟨rd, 0, none⟩), .agg #[.int .i64 1, .int .i64 n, .string nm, .string tn, .slice A l.length c]] W fun e w' => e = .returned (.bool true) ∧ Pair w0 ((pSync p nm.data.toList).1) ((pSync p nm.data.toList).1) d rd w' := by
  have H := Aside0.mk h
  have CS := Aside0.mk (fun (w' : World) (hb : Below w0.heap.size w0 w') => C_stayN (w1 := w') hC (fun a ha hn => (hb.block _ (hA a ha hn)).trans (h.old.block _ (hA a ha hn)).symm))
  clear h hC
  obtain ⟨W1, hW1⟩ : ∃ W1, W1 = W.alloc (.cells #[.int .i64 1, .int .i64 n, .string nm, .string tn, .slice A l.length c] 53) := ⟨_, rfl⟩
  have hbx : BoxIs W1 W.heap.size 1 n nm tn A l.length c := ⟨by rw [hW1]; exact heap_alloc_new W _⟩
  have hb : Below W.heap.size W W1 := by rw [hW1]; exact (Below.refl _ W).alloc (Nat.le_refl _) _
  have hsz : W.heap.size < W1.heap.size := by rw [hW1]; simp
  have k0 := hbx.c0
  have k2 := hbx.c2
  have BX := Aside0.mk hbx
  have BW := Aside0.mk hb
  clear hbx hb
  go_enter Try.func18, Try.ntmps18
  go_wp2_with fail
  rw [← hW1]
  clear hW1
  go_region_held3 (fun w' => w'.cell? ⟨W.heap.size, 2, none⟩ = some (.string nm)) (go_keep)
    (first
      | (go_at_call 10; refine (H.out.sync (w := W1.drew) BW.out.drew nm hs).mono ?_; rintro e w2 ⟨rfl, hP, hk⟩; have P2 := Aside0.mk hP; have q2 : w2.cell? ⟨W.heap.size, 2, none⟩ = some (.string nm) := (World.cell?_of_block (a := ⟨W.heap.size, 2, none⟩) (hk W.heap.size (Nat.le_refl _) hsz)).trans k2; clear hP hk)
      | (go_at_call 27; refine (PairM.sync nm P2.out (Nat.le_of_lt (World.block_lt_of_cell? w2 _ q2)) hN hs).mono ?_; rintro e w3 ⟨rfl, hP, hk⟩; have P3 := Aside0.mk hP; have y2 : w3.cell? ⟨W.heap.size, 2, none⟩ = some (.string nm) := (World.cell?_of_block (a := ⟨W.heap.size, 2, none⟩) (hk W.heap.size (Nat.le_refl _) (World.block_lt_of_cell? w2 _ q2))).trans q2; clear hP hk))
  all_goals
    go_wp2_with fail
    go_ret
    exact ⟨rfl, P3.out⟩
set_option maxRecDepth 100000 in
set_option maxHeartbeats 2000000 in
theorem does_truncate (w0 W : World) (p : PD) (d rd : Nat) (h : Pair w0 p p d rd W) (hN : p.F.length ≤ 999999) (n : Int) (hk1 : -9223372036854775808 ≤ n) (hk2 : n ≤ 9223372036854775807) (nm tn : ByteArray) (hs : nm.size ≤ maxLen) (hst : tn.size ≤ maxLen) (A : Option Addr) (c : Nat) (l : List Int) (hC : Kd.C (Kd.int .u8) W A l.length l) (hc : l.length ≤ c) (hA : ∀ a, A = some a → l ≠ [] → a.block < w0.heap.size) (hl : l.length ≤ 140737488351232) :
    Calls Try.prog 18 #[.pointer (some ⟨d, 0, none⟩), .pointer (some ⟨rd, 0, none⟩), .agg #[.int .i64 2, .int .i64 n, .string nm, .string tn, .slice A l.length c]] W fun e w' => e = .returned (.bool true) ∧ Pair w0 ((pTruncate p nm.data.toList n).1) ((pTruncate p nm.data.toList n).1) d rd w' := by
  have H := Aside0.mk h
  have CS := Aside0.mk (fun (w' : World) (hb : Below w0.heap.size w0 w') => C_stayN (w1 := w') hC (fun a ha hn => (hb.block _ (hA a ha hn)).trans (h.old.block _ (hA a ha hn)).symm))
  clear h hC
  obtain ⟨W1, hW1⟩ : ∃ W1, W1 = W.alloc (.cells #[.int .i64 2, .int .i64 n, .string nm, .string tn, .slice A l.length c] 53) := ⟨_, rfl⟩
  have hbx : BoxIs W1 W.heap.size 2 n nm tn A l.length c := ⟨by rw [hW1]; exact heap_alloc_new W _⟩
  have hb : Below W.heap.size W W1 := by rw [hW1]; exact (Below.refl _ W).alloc (Nat.le_refl _) _
  have hsz : W.heap.size < W1.heap.size := by rw [hW1]; simp
  have k0 := hbx.c0
  have k2 := hbx.c2
  have k1 := hbx.c1
  have BX := Aside0.mk hbx
  have BW := Aside0.mk hb
  clear hbx hb
  go_enter Try.func18, Try.ntmps18
  go_wp2_with fail
  rw [← hW1]
  clear hW1
  go_region_held3 (fun w' => w'.cell? ⟨W.heap.size, 2, none⟩ = some (.string nm) ∧ w'.cell? ⟨W.heap.size, 1, none⟩ = some (.int .i64 n)) (go_keep)
    (first
      | (go_at_call 14; refine (H.out.truncate (w := W1.drew) BW.out.drew nm hs n hk1 hk2).mono ?_; rintro e w2 ⟨rfl, hP, hk⟩; have P2 := Aside0.mk hP; have q2 : w2.cell? ⟨W.heap.size, 2, none⟩ = some (.string nm) := (World.cell?_of_block (a := ⟨W.heap.size, 2, none⟩) (hk W.heap.size (Nat.le_refl _) hsz)).trans k2; have q1 : w2.cell? ⟨W.heap.size, 1, none⟩ = some (.int .i64 n) := (World.cell?_of_block (a := ⟨W.heap.size, 1, none⟩) (hk W.heap.size (Nat.le_refl _) hsz)).trans k1; clear hP hk)
      | (go_at_call 28; refine (PairM.truncate nm n P2.out (Nat.le_of_lt (World.block_lt_of_cell? w2 _ q2)) hN hs hk1 hk2).mono ?_; rintro e w3 ⟨rfl, hP, hk⟩; have P3 := Aside0.mk hP; have y2 : w3.cell? ⟨W.heap.size, 2, none⟩ = some (.string nm) := (World.cell?_of_block (a := ⟨W.heap.size, 2, none⟩) (hk W.heap.size (Nat.le_refl _) (World.block_lt_of_cell? w2 _ q2))).trans q2; have y1 : w3.cell? ⟨W.heap.size, 1, none⟩ = some (.int .i64 n) := (World.cell?_of_block (a := ⟨W.heap.size, 1, none⟩) (hk W.heap.size (Nat.le_refl _) (World.block_lt_of_cell? w2 _ q2))).trans q1; clear hP hk))
  all_goals
    go_wp2_with fail
    go_ret
    exact ⟨rfl, P3.out⟩
set_option maxRecDepth 100000 in
set_option maxHeartbeats 2000000 in
theorem does_rename (w0 W : World) (p : PD) (d rd : Nat) (h : Pair w0 p p d rd W) (hN : p.F.length ≤ 999999) (n : Int) (hk1 : -9223372036854775808 ≤ n) (hk2 : n ≤ 9223372036854775807) (nm tn : ByteArray) (hs : nm.size ≤ maxLen) (hst : tn.size ≤ maxLen) (A : Option Addr) (c : Nat) (l : List Int) (hC : Kd.C (Kd.int .u8) W A l.length l) (hc : l.length ≤ c) (hA : ∀ a, A = some a → l ≠ [] → a.block < w0.heap.size) (hl : l.length ≤ 140737488351232) :
    Calls Try.prog 18 #[.pointer (some ⟨d, 0, none⟩), .pointer (some ⟨rd, 0, none⟩), .agg #[.int .i64 3, .int .i64 n, .string nm, .string tn, .slice A l.length c]] W fun e w' => e = .returned (.bool true) ∧ Pair w0 ((pRename p nm.data.toList tn.data.toList).1) ((pRename p nm.data.toList tn.data.toList).1) d rd w' := by
  have H := Aside0.mk h
  have CS := Aside0.mk (fun (w' : World) (hb : Below w0.heap.size w0 w') => C_stayN (w1 := w') hC (fun a ha hn => (hb.block _ (hA a ha hn)).trans (h.old.block _ (hA a ha hn)).symm))
  clear h hC
  obtain ⟨W1, hW1⟩ : ∃ W1, W1 = W.alloc (.cells #[.int .i64 3, .int .i64 n, .string nm, .string tn, .slice A l.length c] 53) := ⟨_, rfl⟩
  have hbx : BoxIs W1 W.heap.size 3 n nm tn A l.length c := ⟨by rw [hW1]; exact heap_alloc_new W _⟩
  have hb : Below W.heap.size W W1 := by rw [hW1]; exact (Below.refl _ W).alloc (Nat.le_refl _) _
  have hsz : W.heap.size < W1.heap.size := by rw [hW1]; simp
  have k0 := hbx.c0
  have k2 := hbx.c2
  have k3 := hbx.c3
  have BX := Aside0.mk hbx
  have BW := Aside0.mk hb
  clear hbx hb
  go_enter Try.func18, Try.ntmps18
  go_wp2_with fail
  rw [← hW1]
  clear hW1
  go_region_held3 (fun w' => w'.cell? ⟨W.heap.size, 2, none⟩ = some (.string nm) ∧ w'.cell? ⟨W.heap.size, 3, none⟩ = some (.string tn)) (go_keep)
    (first
      | (go_at_call 17; refine (H.out.rename (w := W1.drew) BW.out.drew (Nat.le_trans hN (by omega)) nm tn hs hst).mono ?_; rintro e w2 ⟨rfl, hP, hk⟩; have P2 := Aside0.mk hP; have q2 : w2.cell? ⟨W.heap.size, 2, none⟩ = some (.string nm) := (World.cell?_of_block (a := ⟨W.heap.size, 2, none⟩) (hk W.heap.size (Nat.le_refl _) hsz)).trans k2; have q3 : w2.cell? ⟨W.heap.size, 3, none⟩ = some (.string tn) := (World.cell?_of_block (a := ⟨W.heap.size, 3, none⟩) (hk W.heap.size (Nat.le_refl _) hsz)).trans k3; clear hP hk)
      | (go_at_call 29; refine (PairM.rename nm tn P2.out (Nat.le_of_lt (World.block_lt_of_cell? w2 _ q2)) hN hs hst).mono ?_; rintro e w3 ⟨rfl, hP, hk⟩; have P3 := Aside0.mk hP; have y2 : w3.cell? ⟨W.heap.size, 2, none⟩ = some (.string nm) := (World.cell?_of_block (a := ⟨W.heap.size, 2, none⟩) (hk W.heap.size (Nat.le_refl _) (World.block_lt_of_cell? w2 _ q2))).trans q2; have y3 : w3.cell? ⟨W.heap.size, 3, none⟩ = some (.string tn) := (World.cell?_of_block (a := ⟨W.heap.size, 3, none⟩) (hk W.heap.size (Nat.le_refl _) (World.block_lt_of_cell? w2 _ q2))).trans q3; clear hP hk))
  all_goals
    go_wp2_with fail
    go_ret
    exact ⟨rfl, P3.out⟩
set_option maxRecDepth 100000 in
set_option maxHeartbeats 2000000 in
theorem does_remove (w0 W : World) (p : PD) (d rd : Nat) (h : Pair w0 p p d rd W) (hN : p.F.length ≤ 999999) (n : Int) (hk1 : -9223372036854775808 ≤ n) (hk2 : n ≤ 9223372036854775807) (nm tn : ByteArray) (hs : nm.size ≤ maxLen) (hst : tn.size ≤ maxLen) (A : Option Addr) (c : Nat) (l : List Int) (hC : Kd.C (Kd.int .u8) W A l.length l) (hc : l.length ≤ c) (hA : ∀ a, A = some a → l ≠ [] → a.block < w0.heap.size) (hl : l.length ≤ 140737488351232) :
    Calls Try.prog 18 #[.pointer (some ⟨d, 0, none⟩), .pointer (some ⟨rd, 0, none⟩), .agg #[.int .i64 4, .int .i64 n, .string nm, .string tn, .slice A l.length c]] W fun e w' => e = .returned (.bool true) ∧ Pair w0 ((pRemove p nm.data.toList).1) ((pRemove p nm.data.toList).1) d rd w' := by
  have H := Aside0.mk h
  have CS := Aside0.mk (fun (w' : World) (hb : Below w0.heap.size w0 w') => C_stayN (w1 := w') hC (fun a ha hn => (hb.block _ (hA a ha hn)).trans (h.old.block _ (hA a ha hn)).symm))
  clear h hC
  obtain ⟨W1, hW1⟩ : ∃ W1, W1 = W.alloc (.cells #[.int .i64 4, .int .i64 n, .string nm, .string tn, .slice A l.length c] 53) := ⟨_, rfl⟩
  have hbx : BoxIs W1 W.heap.size 4 n nm tn A l.length c := ⟨by rw [hW1]; exact heap_alloc_new W _⟩
  have hb : Below W.heap.size W W1 := by rw [hW1]; exact (Below.refl _ W).alloc (Nat.le_refl _) _
  have hsz : W.heap.size < W1.heap.size := by rw [hW1]; simp
  have k0 := hbx.c0
  have k2 := hbx.c2
  have BX := Aside0.mk hbx
  have BW := Aside0.mk hb
  clear hbx hb
  go_enter Try.func18, Try.ntmps18
  go_wp2_with fail
  rw [← hW1]
  clear hW1
  go_region_held3 (fun w' => w'.cell? ⟨W.heap.size, 2, none⟩ = some (.string nm)) (go_keep)
    (first
      | (go_at_call 30; refine (H.out.remove (w := W1.drew) BW.out.drew nm hs).mono ?_; rintro e w2 ⟨rfl, hP, hk⟩; have P2 := Aside0.mk hP; have q2 : w2.cell? ⟨W.heap.size, 2, none⟩ = some (.string nm) := (World.cell?_of_block (a := ⟨W.heap.size, 2, none⟩) (hk W.heap.size (Nat.le_refl _) hsz)).trans k2; clear hP hk)
      | (go_at_call 31; refine (PairM.remove nm P2.out (Nat.le_of_lt (World.block_lt_of_cell? w2 _ q2)) hN hs).mono ?_; rintro e w3 ⟨rfl, hP, hk⟩; have P3 := Aside0.mk hP; have y2 : w3.cell? ⟨W.heap.size, 2, none⟩ = some (.string nm) := (World.cell?_of_block (a := ⟨W.heap.size, 2, none⟩) (hk W.heap.size (Nat.le_refl _) (World.block_lt_of_cell? w2 _ q2))).trans q2; clear hP hk))
  all_goals
    go_wp2_with fail
    go_ret
    exact ⟨rfl, P3.out⟩
set_option maxRecDepth 100000 in
set_option maxHeartbeats 2000000 in
theorem does_cut (w0 W : World) (p : PD) (d rd : Nat) (h : Pair w0 p p d rd W) (hN : p.F.length ≤ 999999) (n : Int) (hk1 : -9223372036854775808 ≤ n) (hk2 : n ≤ 9223372036854775807) (nm tn : ByteArray) (hs : nm.size ≤ maxLen) (hst : tn.size ≤ maxLen) (A : Option Addr) (c : Nat) (l : List Int) (hC : Kd.C (Kd.int .u8) W A l.length l) (hc : l.length ≤ c) (hA : ∀ a, A = some a → l ≠ [] → a.block < w0.heap.size) (hl : l.length ≤ 140737488351232) :
    Calls Try.prog 18 #[.pointer (some ⟨d, 0, none⟩), .pointer (some ⟨rd, 0, none⟩), .agg #[.int .i64 5, .int .i64 n, .string nm, .string tn, .slice A l.length c]] W fun e w' => e = .returned (.bool true) ∧ Pair w0 (pCut p n) (pCut p n) d rd w' := by
  have H := Aside0.mk h
  have CS := Aside0.mk (fun (w' : World) (hb : Below w0.heap.size w0 w') => C_stayN (w1 := w') hC (fun a ha hn => (hb.block _ (hA a ha hn)).trans (h.old.block _ (hA a ha hn)).symm))
  clear h hC
  obtain ⟨W1, hW1⟩ : ∃ W1, W1 = W.alloc (.cells #[.int .i64 5, .int .i64 n, .string nm, .string tn, .slice A l.length c] 53) := ⟨_, rfl⟩
  have hbx : BoxIs W1 W.heap.size 5 n nm tn A l.length c := ⟨by rw [hW1]; exact heap_alloc_new W _⟩
  have hb : Below W.heap.size W W1 := by rw [hW1]; exact (Below.refl _ W).alloc (Nat.le_refl _) _
  have hsz : W.heap.size < W1.heap.size := by rw [hW1]; simp
  have k0 := hbx.c0
  have k1 := hbx.c1
  have BX := Aside0.mk hbx
  have BW := Aside0.mk hb
  clear hbx hb
  go_enter Try.func18, Try.ntmps18
  go_wp2_with fail
  rw [← hW1]
  clear hW1
  refine (H.out.cut BW.out n hk1 hk2).mono ?_
  rintro e w2 ⟨rfl, hP, hk⟩
  have P2 := Aside0.mk hP
  have q1 : w2.cell? ⟨W.heap.size, 1, none⟩ = some (.int .i64 n) := (World.cell?_of_block (a := ⟨W.heap.size, 1, none⟩) (hk W.heap.size (Nat.le_refl _) hsz)).trans k1
  clear hP hk
  go_wp2_with fail
  refine (PairM.cut n P2.out (Nat.le_of_lt (World.block_lt_of_cell? w2 _ q1)) (Nat.le_trans hN (by omega)) hk1 hk2).mono ?_
  rintro e w3 ⟨rfl, hP, hk⟩
  have P3 := Aside0.mk hP
  clear hP hk
  go_wp2_with fail
  go_ret
  exact ⟨rfl, P3.out⟩
end Go.Proofs.Ytlbeehefandfhaa.Pr
end
section
namespace Go.Proofs.Ytlbeehefandfhaa.Pr
open Go.RowKit Go.Maps Go.Sort Go.Proofs.YtlbeehefandfhaaW.PrintWords Go.Proofs.YtlbeehefandfhaaW.PrintLast Go.Proofs.YtlbeehefandfhaaW.PrintMore
theorem yy {w0 W W1 w2 : World} {p q : PD} {d rd : Nat} {A : Option Addr} {c : Nat} {l : List Int} (h : Pair w0 p q d rd W) (hb : Below W.heap.size W W1) (hY : Young W1.drew w2 A c l) : Young W w2 A c l := ⟨hY.reads, hY.cap, fun a ha => ⟨Nat.le_trans hb.size (hY.at_ a ha).1, (hY.at_ a ha).2⟩⟩
theorem step_copy_y {W : World} {ops : Array Oper} {o : Oper} {a : Act} {K : Act → World → Prop} {Q : Exit → Act → World → Prop} {E : Prop} (hgd : o.guard = none) (s x : Operand)
    (ho : o.op = .call { callee := .builtin .append, args := #[s, x], argTypes := #[22, 22] }) (hs : a.eval s = .slice (some ⟨W.heap.size, 0, none⟩) 0 0) (A : Option Addr) (c : Nat) (l : List Int) (hx : a.eval x = .slice A l.length c)
    (hC : Kd.C (Kd.int .u8) W A l.length l) (hc : l.length ≤ c) (hb : l.length ≤ 140737488355328)
    (h : ∀ A1 c1 w1, Young W w1 A1 c1 l → Below W.heap.size W w1 → K (a.put o.dst (.slice A1 l.length c1)) w1) :
    if Region.wanted o (yielded ops a.tmps) = true then Oper.wp Try.prog o a (W.alloc (.cells #[] 5)) K Q else E :=
  step_copy_o hgd s x ho hs A l.length c l rfl hx hC hc hb (fun A1 c1 w1 hY hB => h A1 c1 w1 (Young.row hY) hB)
set_option maxRecDepth 100000 in
set_option maxHeartbeats 2000000 in
theorem does_append (w0 W : World) (p : PD) (d rd : Nat) (h : Pair w0 p p d rd W) (hN : p.F.length ≤ 999999) (n : Int) (hk1 : -9223372036854775808 ≤ n) (hk2 : n ≤ 9223372036854775807) (nm tn : ByteArray) (hs : nm.size ≤ maxLen) (hst : tn.size ≤ maxLen) (A : Option Addr) (c : Nat) (l : List Int) (hC : Kd.C (Kd.int .u8) W A l.length l) (hc : l.length ≤ c) (hA : ∀ a, A = some a → l ≠ [] → a.block < w0.heap.size) (hl : l.length ≤ 140737488351232) :
    Calls Try.prog 18 #[.pointer (some ⟨d, 0, none⟩), .pointer (some ⟨rd, 0, none⟩), .agg #[.int .i64 0, .int .i64 n, .string nm, .string tn, .slice A l.length c]] W fun e w' => e = .returned (.bool true) ∧ Pair w0 ((pAppend p nm.data.toList l).1) ((pAppend p nm.data.toList l).1) d rd w' := by
  have H := Aside0.mk h
  have CS := Aside0.mk (fun (w' : World) (hb : Below w0.heap.size w0 w') => C_stayN (w1 := w') hC (fun a ha hn => (hb.block _ (hA a ha hn)).trans (h.old.block _ (hA a ha hn)).symm))
  clear h hC
  obtain ⟨W1, hW1⟩ : ∃ W1, W1 = W.alloc (.cells #[.int .i64 0, .int .i64 n, .string nm, .string tn, .slice A l.length c] 53) := ⟨_, rfl⟩
  have hbx : BoxIs W1 W.heap.size 0 n nm tn A l.length c := ⟨by rw [hW1]; exact heap_alloc_new W _⟩
  have hb : Below W.heap.size W W1 := by rw [hW1]; exact (Below.refl _ W).alloc (Nat.le_refl _) _
  have hsz : W.heap.size < W1.heap.size := by rw [hW1]; simp
  have k0 := hbx.c0
  have k2 := hbx.c2
  have k4 := hbx.c4
  have BX := Aside0.mk hbx
  have BW := Aside0.mk hb
  clear hbx hb
  go_enter Try.func18, Try.ntmps18
  go_wp2_with fail
  rw [← hW1]
  clear hW1
  go_region_held3 (fun w' => w'.cell? ⟨W.heap.size, 2, none⟩ = some (.string nm) ∧ w'.cell? ⟨W.heap.size, 4, none⟩ = some (.slice A l.length c)) (go_keep)
    (first
      | (refine step_copy_y (W := W1.drew) rfl _ _ rfl rfl A c l rfl (CS.out _ (H.out.old.trans (BW.out.mono H.out.old.size)).drew) hc (by omega) ?_; intro A2 c2 w2 hY hB; have Y2 := Aside0.mk hY; have B2 := Aside0.mk (below_of_drew hB); have b2 := pw_cell_below (below_of_drew hB) k2; have b4 := pw_cell_below (below_of_drew hB) k4; clear hY hB)
      | (go_at_call 9; refine (H.out.append (w := w2) (BW.out.trans (B2.out.mono BW.out.size)) (Nat.le_trans hN (by omega)) nm hs A2 c2 l (yy H.out BW.out Y2.out)).mono ?_; rintro e w3 ⟨rfl, hP, hk⟩; have P2 := Aside0.mk hP; have q2 : w3.cell? ⟨W.heap.size, 2, none⟩ = some (.string nm) := (World.cell?_of_block (a := ⟨W.heap.size, 2, none⟩) (hk W.heap.size (Nat.le_refl _) (World.block_lt_of_cell? w2 _ b2))).trans b2; have q4 : w3.cell? ⟨W.heap.size, 4, none⟩ = some (.slice A l.length c) := (World.cell?_of_block (a := ⟨W.heap.size, 4, none⟩) (hk W.heap.size (Nat.le_refl _) (World.block_lt_of_cell? w2 _ b4))).trans b4; clear hP hk)
      | (go_at_call 26; refine (PairM.append nm l P2.out (Nat.le_of_lt (World.block_lt_of_cell? w3 _ q4)) hN hs A c (CS.out _ P2.out.old) hc hA hl).mono ?_; rintro e w4 ⟨rfl, hP, hk⟩; have P3 := Aside0.mk hP; have y2 : w4.cell? ⟨W.heap.size, 2, none⟩ = some (.string nm) := (World.cell?_of_block (a := ⟨W.heap.size, 2, none⟩) (hk W.heap.size (Nat.le_refl _) (World.block_lt_of_cell? w3 _ q4))).trans q2; have y4 : w4.cell? ⟨W.heap.size, 4, none⟩ = some (.slice A l.length c) := (World.cell?_of_block (a := ⟨W.heap.size, 4, none⟩) (hk W.heap.size (Nat.le_refl _) (World.block_lt_of_cell? w3 _ q4))).trans q4; clear hP hk))
  all_goals
    go_wp2_with fail
    go_ret
    exact ⟨rfl, P3.out⟩
set_option maxRecDepth 100000 in
set_option maxHeartbeats 2000000 in
theorem does_crash (w0 W : World) (p : PD) (d rd : Nat) (h : Pair w0 p p d rd W) (hN : p.F.length ≤ 999999) (n : Int) (hk1 : -9223372036854775808 ≤ n) (hk2 : n ≤ 9223372036854775807) (nm tn : ByteArray) (hs : nm.size ≤ maxLen) (hst : tn.size ≤ maxLen) (A : Option Addr) (c : Nat) (l : List Int) (hC : Kd.C (Kd.int .u8) W A l.length l) (hc : l.length ≤ c) (hA : ∀ a, A = some a → l ≠ [] → a.block < w0.heap.size) (hl : l.length ≤ 140737488351232) :
    Calls Try.prog 18 #[.pointer (some ⟨d, 0, none⟩), .pointer (some ⟨rd, 0, none⟩), .agg #[.int .i64 6, .int .i64 n, .string nm, .string tn, .slice A l.length c]] W fun e w' => e = .returned (.bool true) ∧ Pair w0 (pCrash p n l) (pCrash p n l) d rd w' := by
  have H := Aside0.mk h
  have CS := Aside0.mk (fun (w' : World) (hb : Below w0.heap.size w0 w') => C_stayN (w1 := w') hC (fun a ha hn => (hb.block _ (hA a ha hn)).trans (h.old.block _ (hA a ha hn)).symm))
  clear h hC
  obtain ⟨W1, hW1⟩ : ∃ W1, W1 = W.alloc (.cells #[.int .i64 6, .int .i64 n, .string nm, .string tn, .slice A l.length c] 53) := ⟨_, rfl⟩
  have hbx : BoxIs W1 W.heap.size 6 n nm tn A l.length c := ⟨by rw [hW1]; exact heap_alloc_new W _⟩
  have hb : Below W.heap.size W W1 := by rw [hW1]; exact (Below.refl _ W).alloc (Nat.le_refl _) _
  have hsz : W.heap.size < W1.heap.size := by rw [hW1]; simp
  have k0 := hbx.c0
  have k1 := hbx.c1
  have k4 := hbx.c4
  have BX := Aside0.mk hbx
  have BW := Aside0.mk hb
  clear hbx hb
  go_enter Try.func18, Try.ntmps18
  go_wp2_with fail
  rw [← hW1]
  clear hW1
  go_region_held3 (fun w' => w'.cell? ⟨W.heap.size, 1, none⟩ = some (.int .i64 n) ∧ w'.cell? ⟨W.heap.size, 4, none⟩ = some (.slice A l.length c)) (go_keep)
    (first
      | (refine step_copy_y (W := W1.drew) rfl _ _ rfl rfl A c l rfl (CS.out _ (H.out.old.trans (BW.out.mono H.out.old.size)).drew) hc (by omega) ?_; intro A2 c2 w2 hY hB; have Y2 := Aside0.mk hY; have B2 := Aside0.mk (below_of_drew hB); have b1 := pw_cell_below (below_of_drew hB) k1; have b4 := pw_cell_below (below_of_drew hB) k4; clear hY hB)
      | (go_at_call 11; refine (H.out.crash (w := w2) (BW.out.trans (B2.out.mono BW.out.size)) (Nat.le_trans hN (by omega)) n hk1 hk2 A2 c2 l (yy H.out BW.out Y2.out)).mono ?_; rintro e w3 ⟨rfl, hP, hk⟩; have P2 := Aside0.mk hP; have q1 : w3.cell? ⟨W.heap.size, 1, none⟩ = some (.int .i64 n) := (World.cell?_of_block (a := ⟨W.heap.size, 1, none⟩) (hk W.heap.size (Nat.le_refl _) (World.block_lt_of_cell? w2 _ b1))).trans b1; have q4 : w3.cell? ⟨W.heap.size, 4, none⟩ = some (.slice A l.length c) := (World.cell?_of_block (a := ⟨W.heap.size, 4, none⟩) (hk W.heap.size (Nat.le_refl _) (World.block_lt_of_cell? w2 _ b4))).trans b4; clear hP hk)
      | fail)
  all_goals
    go_wp2_with fail
    refine (PairM.crash n l P2.out (Nat.le_of_lt (World.block_lt_of_cell? w3 _ q4)) hN hk1 hk2 A c (CS.out _ P2.out.old) hc hA hl).mono ?_
    rintro e w4 ⟨rfl, hP, hk⟩
    have P3 := Aside0.mk hP
    clear hP hk
    go_wp2_with fail
    go_ret
    exact ⟨rfl, P3.out⟩
end Go.Proofs.Ytlbeehefandfhaa.Pr
end
section
namespace Go.Proofs.Ytlbeehefandfhaa.Pr
open Go.RowKit Go.Maps Go.Sort Go.Proofs.YtlbeehefandfhaaW.PrintWords Go.Proofs.YtlbeehefandfhaaW.PrintLast Go.Proofs.YtlbeehefandfhaaW.PrintMore
set_option maxRecDepth 100000 in
set_option maxHeartbeats 2000000 in
theorem does_other (w0 W : World) (p : PD) (d rd : Nat) (h : Pair w0 p p d rd W) (hN : p.F.length ≤ 999999) (n : Int) (hk1 : -9223372036854775808 ≤ n) (hk2 : n ≤ 9223372036854775807) (nm tn : ByteArray) (hs : nm.size ≤ maxLen) (hst : tn.size ≤ maxLen) (A : Option Addr) (c : Nat) (l : List Int) (hC : Kd.C (Kd.int .u8) W A l.length l) (hc : l.length ≤ c) (hA : ∀ a, A = some a → l ≠ [] → a.block < w0.heap.size) (hl : l.length ≤ 140737488351232) (kind : Int) (hk : kind ≠ 0 ∧ kind ≠ 1 ∧ kind ≠ 2 ∧ kind ≠ 3 ∧ kind ≠ 4 ∧ kind ≠ 5 ∧ kind ≠ 6) :
    Calls Try.prog 18 #[.pointer (some ⟨d, 0, none⟩), .pointer (some ⟨rd, 0, none⟩), .agg #[.int .i64 kind, .int .i64 n, .string nm, .string tn, .slice A l.length c]] W fun e w' => e = .returned (.bool true) ∧ Pair w0 (p) (p) d rd w' := by
  have H := Aside0.mk h
  have CS := Aside0.mk (fun (w' : World) (hb : Below w0.heap.size w0 w') => C_stayN (w1 := w') hC (fun a ha hn => (hb.block _ (hA a ha hn)).trans (h.old.block _ (hA a ha hn)).symm))
  clear h hC
  obtain ⟨W1, hW1⟩ : ∃ W1, W1 = W.alloc (.cells #[.int .i64 kind, .int .i64 n, .string nm, .string tn, .slice A l.length c] 53) := ⟨_, rfl⟩
  have hbx : BoxIs W1 W.heap.size kind n nm tn A l.length c := ⟨by rw [hW1]; exact heap_alloc_new W _⟩
  have hb : Below W.heap.size W W1 := by rw [hW1]; exact (Below.refl _ W).alloc (Nat.le_refl _) _
  have hsz : W.heap.size < W1.heap.size := by rw [hW1]; simp
  have k0 := hbx.c0
  have BX := Aside0.mk hbx
  have BW := Aside0.mk hb
  clear hbx hb
  have n0 : (kind == 0) = false := beq_eq_false_iff_ne.2 hk.1
  have n1 : (kind == 1) = false := beq_eq_false_iff_ne.2 hk.2.1
  have n2 : (kind == 2) = false := beq_eq_false_iff_ne.2 hk.2.2.1
  have n3 : (kind == 3) = false := beq_eq_false_iff_ne.2 hk.2.2.2.1
  have n4 : (kind == 4) = false := beq_eq_false_iff_ne.2 hk.2.2.2.2.1
  have n5 : (kind == 5) = false := beq_eq_false_iff_ne.2 hk.2.2.2.2.2.1
  have n6 : (kind == 6) = false := beq_eq_false_iff_ne.2 hk.2.2.2.2.2.2
  go_enter Try.func18, Try.ntmps18
  go_wp2_with fail
  rw [← hW1]
  clear hW1
  go_ret
  exact ⟨rfl, H.out.below BW.out⟩
theorem does_calls (w0 W : World) (p : PD) (d rd : Nat) (h : Pair w0 p p d rd W) (hN : p.F.length ≤ 999999) (kind n : Int) (hk1 : -9223372036854775808 ≤ n) (hk2 : n ≤ 9223372036854775807) (nm tn : ByteArray) (hs : nm.size ≤ maxLen) (hst : tn.size ≤ maxLen) (A : Option Addr) (c : Nat) (l : List Int) (hC : Kd.C (Kd.int .u8) W A l.length l) (hc : l.length ≤ c) (hA : ∀ a, A = some a → l ≠ [] → a.block < w0.heap.size) (hl : l.length ≤ 140737488351232) :
    Calls Try.prog 18 #[.pointer (some ⟨d, 0, none⟩), .pointer (some ⟨rd, 0, none⟩), .agg #[.int .i64 kind, .int .i64 n, .string nm, .string tn, .slice A l.length c]] W fun e w' => e = .returned (.bool true) ∧ Pair w0 (actP p kind n nm.data.toList tn.data.toList l) (actP p kind n nm.data.toList tn.data.toList l) d rd w' := by
  unfold actP
  by_cases e0 : kind = 0
  · subst e0
    have := does_append w0 W p d rd h hN n hk1 hk2 nm tn hs hst A c l hC hc hA hl
    simpa using this
  simp only [if_neg e0]
  by_cases e1 : kind = 1
  · subst e1
    have := does_sync w0 W p d rd h hN n hk1 hk2 nm tn hs hst A c l hC hc hA hl
    simpa using this
  simp only [if_neg e1]
  by_cases e2 : kind = 2
  · subst e2
    have := does_truncate w0 W p d rd h hN n hk1 hk2 nm tn hs hst A c l hC hc hA hl
    simpa using this
  simp only [if_neg e2]
  by_cases e3 : kind = 3
  · subst e3
    have := does_rename w0 W p d rd h hN n hk1 hk2 nm tn hs hst A c l hC hc hA hl
    simpa using this
  simp only [if_neg e3]
  by_cases e4 : kind = 4
  · subst e4
    have := does_remove w0 W p d rd h hN n hk1 hk2 nm tn hs hst A c l hC hc hA hl
    simpa using this
  simp only [if_neg e4]
  by_cases e5 : kind = 5
  · subst e5
    have := does_cut w0 W p d rd h hN n hk1 hk2 nm tn hs hst A c l hC hc hA hl
    simpa using this
  simp only [if_neg e5]
  by_cases e6 : kind = 6
  · subst e6
    have := does_crash w0 W p d rd h hN n hk1 hk2 nm tn hs hst A c l hC hc hA hl
    simpa using this
  simp only [if_neg e6]
  exact does_other w0 W p d rd h hN n hk1 hk2 nm tn hs hst A c l hC hc hA hl kind ⟨e0, e1, e2, e3, e4, e5, e6⟩
end Go.Proofs.Ytlbeehefandfhaa.Pr
end
section
namespace Go.Proofs.Ytlbeehefandfhaa.Pr
open Go.RowKit Go.Maps Go.Sort Go.Proofs.YtlbeehefandfhaaW.PrintWords Go.Proofs.YtlbeehefandfhaaW.PrintLast Go.Proofs.YtlbeehefandfhaaW.PrintMore
theorem Names_calls (w : World) (B : Nat) (s : DiskM) (h : DiskIs w B s) (g : Good s) (hN : s.L.length ≤ 2000000) :
    Calls Try.prog 34 #[.pointer (some ⟨s.d, 0, none⟩)] w fun e w' => ∃ v, e = .returned v ∧ w'.ownsRow w.heap.size 9 1 v s.L.length (s.L.map fun f => encStr f.name) ∧ Below w.heap.size w w' := by
  have NC := Aside0.mk (names_calls w B s h g hN)
  clear h g
  go_enter Try.func34, Try.ntmps34
  go_wp2_with fail
  refine NC.out.mono ?_
  rintro e w1 ⟨v, rfl, h1, h2⟩
  have H1 := Aside0.mk h1
  have H2 := Aside0.mk h2
  clear h1 h2
  go_wp2_with fail
  go_ret
  exact ⟨v, rfl, H1.out, H2.out⟩
theorem before_self : ∀ a : List UInt8, bytesBefore a a = false
  | [] => rfl
  | a :: x => by
    simp only [bytesBefore, before_self x, Bool.and_false, Bool.or_false]
    simp
theorem getR_self {r : RefM} (g : GoodR r) {k : Nat} (hk : k < r.L.length) : getP r.L[k].name.data.toList r.abs.F = some (absR r.L[k]) := by
  have hs := g.wf.sorted
  have e := split_at hk
  have hF : r.abs.F = (r.L.take k ++ r.L[k] :: r.L.drop (k + 1)).map absR := congrArg (List.map absR) e
  rw [hF] at hs ⊢
  refine getR_some rfl (fun x hx he => ?_)
  rw [List.map_append, List.map_cons] at hs
  have := (List.pairwise_append.1 hs).2.2 (absR x) (List.mem_map.2 ⟨x, hx, rfl⟩) (absR r.L[k]) (by simp)
  rw [show (absR x).name = (absR r.L[k]).name by unfold absR; rw [he], before_self] at this
  cases this
theorem nameR_size {r : RefM} (g : GoodR r) {k : Nat} (hk : k < r.L.length) : r.L[k].name.size ≤ maxLen := by
  have := g.wf.names (absR r.L[k]) (List.mem_map.2 ⟨_, List.getElem_mem _, rfl⟩)
  rw [nameOk_eq] at this
  simp only [Bool.and_eq_true, decide_eq_true_eq] at this
  have h := this.2.2
  have h2 := data_length r.L[k].name
  unfold maxLen
  have h3 : (absR r.L[k]).name = r.L[k].name.data.toList := rfl
  rw [h3] at h
  omega
set_option maxRecDepth 100000 in
set_option maxHeartbeats 2000000 in
theorem same_calls (w0 W : World) (p : PD) (d rd : Nat) (h : Pair w0 p p d rd W) (hN : p.F.length ≤ 1000000) :
    Calls Try.prog 19 #[.pointer (some ⟨d, 0, none⟩), .pointer (some ⟨rd, 0, none⟩)] W fun e w' => e = .returned (.bool true) ∧ Pair w0 p p d rd w' := by
  have HP := Aside0.mk h
  obtain ⟨s, r, h1, h2, h3, h4, h5, h6, h7, h8, h9, h10⟩ := h
  have hlen : s.L.length = r.L.length := by
    have := congrArg (fun q : PD => q.F.length) (h3.trans h7.symm)
    simpa [DiskM.abs, RefM.abs] using this
  have hsl := many_s h3 hN
  have hel : ∀ k (hk : k < r.L.length), ∃ f, s.L[k]? = some f ∧ f.name = r.L[k].name.data.toList ∧ f.bs = r.L[k].bs ∧ f.fast = r.L[k].fast := fun k hk => by
    have e := congrArg (fun q : PD => q.F[k]?) (h3.trans h7.symm)
    simp only [DiskM.abs, RefM.abs, List.getElem?_map, List.getElem?_eq_getElem hk] at e
    cases hs : s.L[k]? with
    | none => rw [hs] at e; cases e
    | some f =>
      rw [hs] at e
      simp only [Option.map_some] at e
      injection e with e
      exact ⟨f, rfl, congrArg PF.name e, congrArg PF.bs e, congrArg PF.fast e⟩
  subst h4
  subst h8
  obtain ⟨Ar, cr, hAr, hcr, hcrm⟩ := h5.slice
  have k0 := h5.c0
  rw [hAr] at k0
  have UD := Aside0.mk (fun (w : World) (hb : Below W.heap.size W w) => used_calls w w0.heap.size s (h1.below hb))
  have tt := total_nonneg p.F
  have hu : s.used = total p.F := by rw [h2.used, h3]
  have ht : total p.F ≤ 67108864 := by rw [← h3]; exact Int.le_trans h2.wf.room h2.wf.size1
  have UR := Aside0.mk (fun (w : World) (hb : Below W.heap.size W w) => refUsed_calls w w0.heap.size r (h5.below hb) (by rw [h7]; exact ht))
  have RC := Aside0.mk (fun (w : World) (hb : Below W.heap.size W w) (nm : ByteArray) (hs : nm.size ≤ maxLen) => read_calls w w0.heap.size s (h1.below hb) h2 nm hs)
  have FC := Aside0.mk (fun (w : World) (hb : Below W.heap.size W w) (nm : ByteArray) (hs : nm.size ≤ maxLen) => fast_calls w w0.heap.size s (h1.below hb) nm hs)
  have H3 := Aside0.mk h3
  have NC := Aside0.mk (Names_calls W w0.heap.size s h1 h2 (by omega))
  have HU := Aside0.mk hu
  have H7 := Aside0.mk h7
  have H5 := Aside0.mk h5
  have HEL := Aside0.mk hel
  have hr1 : r.L.length ≤ 1000000 := by omega
  have HAr := Aside0.mk hAr
  have GS := Aside0.mk (fun (k : Nat) (hk : k < r.L.length) => show getP r.L[k].name.data.toList p.F = some (absR r.L[k]) by rw [← h7]; exact getR_self h6 hk)
  have NS := Aside0.mk (fun (k : Nat) (hk : k < r.L.length) => nameR_size h6 hk)
  clear h1 h2 h3 h5 h6 h7 h9 h10 hu hel hAr hcrm
  go_enter Try.func19, Try.ntmps19
  go_wp2_with fail
  refine NC.out.mono ?_
  rintro e w1 ⟨v, rfl, hO, hB⟩
  rw [hlen] at hO
  obtain ⟨Av, cv, rfl⟩ : ∃ A' c', v = .slice A' r.L.length c' := by
    rcases hO.2 with ⟨e, hn⟩ | ⟨g, cap, cur, e, _⟩
    · exact ⟨none, 0, by rw [e, hn]⟩
    · exact ⟨_, cap, e⟩
  have O1 := Aside0.mk hO
  have B1 := Aside0.mk hB
  have z0 := pw_cell_below hB k0
  clear hO hB k0
  go_wp2_with (first
    | (go_at_call 15; refine (UD.out _ B1.out).mono ?_; rintro e w2 ⟨rfl, rfl⟩; rw [HU.out])
    | (go_at_call 35; refine (UR.out _ B1.out).mono ?_; rintro e w2 ⟨rfl, rfl⟩; rw [H7.out]))
  go_loopw [6] (fun i wr => ∃ (k : Nat), i = .int .i64 k ∧ k ≤ r.L.length ∧ Aside0 (Below W.heap.size W wr) ∧ Aside0 (wr.ownsRow W.heap.size 9 1 (.slice Av r.L.length cv) r.L.length (s.L.map fun f => encStr f.name))) (fun i _ => r.L.length - (intOf i).toNat)
  case atStart => exact ⟨0, rfl, Nat.zero_le _, B1, O1⟩
  case round =>
    obtain ⟨k, rfl, hk, hB, hO⟩ := hrel
    by_cases hlt : k < r.L.length
    · have hi1 : (k : Int) < (r.L.length : Int) := by omega
      obtain ⟨f, hf, hf1, hf2, hf3⟩ := HEL.out k hlt
      have hnm : encStr f.name = .string r.L[k].name := by rw [hf1]
      have htc : ∃ gt, Av = some ⟨gt, 0, none⟩ ∧ wr.cell? ⟨gt, k, none⟩ = some (.string r.L[k].name) := by
        rcases hO.out.2 with ⟨e, hn⟩ | ⟨gt, cap, cur, e, _⟩
        · omega
        · injection e with e1
          refine ⟨gt, e1, ?_⟩
          have := hO.out.cells (g := gt) (by rw [e1]; rfl) k (.string r.L[k].name) (by rw [List.getElem?_map, hf, Option.map_some, hnm])
          rw [add_plain] at this
          exact this
      obtain ⟨gt, hAv, htc⟩ := htc
      subst hAv
      have hG := GS.out k hlt
      have hns := NS.out k hlt
      have hpr : pRead p r.L[k].name.data.toList = (r.L[k].bs, true) := by unfold pRead; rw [hG]; rfl
      have hpf : pFast p r.L[k].name.data.toList = (r.L[k].fast : Int) := by unfold pFast; rw [hG]; rfl
      have PR := Aside0.mk hpr
      have PF' := Aside0.mk hpf
      clear hpr hpf hf1 hf2 hf3 hnm hf hG
      go_wp2_with fail
      refine (RC.out wr hB.out r.L[k].name hns).mono ?_
      rintro e w2 ⟨v2, rfl, hR, hb2⟩
      rw [H3.out, PR.out] at hR ⊢
      obtain ⟨A2, c2, hv2, _, _⟩ := hR.slice
      subst hv2
      have bw2 := hB.out.trans (hb2.mono hB.out.size)
      have R2 := H5.out.below bw2
      obtain ⟨gb, c9, ea, _, a1, a2, a3, _, _⟩ := R2.at (split_at hlt)
      rw [List.length_take, Nat.min_eq_left (by omega)] at a1 a2 a3
      have hXf := R2.file r.L[k] (List.getElem_mem _)
      obtain ⟨Ax, cx, hv, hcx, _⟩ := hXf.slice
      rw [hv] at a2 hXf
      have hEA : Ar = some ⟨gb, 0, none⟩ := by
        rw [HAr.out] at ea
        injection ea
      subst hEA
      have z2 : w2.cell? ⟨r.d, 0, none⟩ = some (.slice (some ⟨gb, 0, none⟩) r.L.length cr) := by
        have := R2.c0
        rw [HAr.out] at this
        exact this
      have t2 := pw_cell_below hb2 htc
      have cv1 : ∀ n, (convert 22 9 (.slice A2 r.L[k].bs.length c2)).run Try.prog (w2.drewN n) = .ok (.string (strOfNums r.L[k].bs)) (w2.drewN n) := fun n => str_of_C (Kd.C_drewN hR.reads.2 n) rfl c2
      have cv2 : ∀ n, (convert 22 9 (.slice Ax r.L[k].bs.length cx)).run Try.prog (w2.drewN n) = .ok (.string (strOfNums r.L[k].bs)) (w2.drewN n) := fun n => str_of_C (Kd.C_drewN hXf.reads.2 n) rfl cx
      have FN := Aside0.mk (fun n => FC.out (w2.drewN n) (pw_below_drewN bw2 n) r.L[k].name hns)
      have B2 := Aside0.mk bw2
      have O2 := Aside0.mk (ownsRow_move (w' := w2) hO.out (fun b hb => hb2.block b (ownsRow_typed hO.out hb).2.1))
      generalize r.L[k].bs = bs at a2 cv1 cv2 hR
      generalize r.L[k].fast = ft at a3 PF'
      generalize r.L[k].name = nmk at a1 t2 FN PF' hns
      clear hR hXf hv ea R2 z0 htc hb2
      go_wp2_with fail
      go_quiet ((go_at_call 13; exact Calls.quiet_of_same ((FN.out _).mono fun e w' ⟨he, hw⟩ => ⟨by rw [he, H3.out, PF'.out], hw.symm⟩)))
      go_wp2_with fail
      go_round
      case rel => exact ⟨k + 1, by go_num, by omega, ⟨pw_below_drewN B2.out _⟩, ⟨ownsRow_drewN O2.out _⟩⟩
      case measure => simp [intOf]; omega
    · obtain rfl : k = r.L.length := by omega
      go_wp2_with fail
      go_ret
      exact ⟨rfl, HP.out.below hB.out⟩
end Go.Proofs.Ytlbeehefandfhaa.Pr
end
section
namespace Go.Proofs.Ytlbeehefandfhaa.Pr
open Go.RowKit Go.Maps Go.Sort Go.Proofs.YtlbeehefandfhaaW.PrintWords Go.Proofs.YtlbeehefandfhaaW.PrintLast Go.Proofs.YtlbeehefandfhaaW.PrintMore
theorem Pair.start {w0 w w' : World} {size : Int} {s : DiskM} (hb : Below w0.heap.size w0 w) (h : NewDone w size w' s) :
    Pair w0 ⟨[], size, -1, false⟩ ⟨[], size, -1, false⟩ s.d w'.heap.size (w'.alloc (.cells #[.slice none 0 0, .int .i64 size, .int .i64 (-1), .bool false] 50)) := by
  obtain ⟨s', h1, h2, h3, h4, h5⟩ := DiskAt.of_new hb h
  have hw : s'.L = [] := by
    have h0 : s'.abs.F = s'.L.map absF := rfl
    rw [h3] at h0
    simpa using h0.symm
  have hle := h1.le
  have hWF : WF ⟨[], size, -1, false⟩ := by rw [← h3]; exact h2.wf
  refine ⟨s', ⟨w'.heap.size, .slice none 0 0, [], size, -1, false⟩, h1.alloc _, h2, h3, h4, ⟨hle, heap_alloc_new w' _, World.ownsRow_nil _ _ _ _, fun f hf => by cases hf⟩, ⟨hWF, Nat.zero_le _⟩, rfl, rfl, fun k hk hk2 => ?_, h5.alloc (by omega) _⟩
  have h6 := (h1.foot hk).2
  rcases hk2 with hk2 | hk2 | ⟨f, hf, _⟩
  · have : k = w'.heap.size := hk2
    omega
  · simp [Value.ownBlock] at hk2
  · cases hf
set_option maxRecDepth 100000 in
theorem diskActs_refused (w : World) (size : Int) (h : size < 0 ∨ 67108864 < size) (A : Option Addr) (n c : Nat) :
    Calls Try.prog 6 #[.int .i64 size, .slice A n c] w fun e w' => e = .returned (.bool true) ∧ Below w.heap.size w w' := by
  have HH := Aside0.mk h
  by_cases h0 : size < 0
  · clear h
    go_enter Try.func6, Try.ntmps6
    go_wp2_with fail
    refine (new_refused w size HH.out).mono ?_
    rintro e w1 ⟨rfl, rfl⟩
    go_wp2_with fail
    refine (lives_calls _).mono ?_
    rintro e w2 ⟨rfl, hb⟩
    have B2 := Aside0.mk hb
    clear hb
    go_wp2_with fail
    go_ret
    exact ⟨rfl, B2.out⟩
  · have h1 : 67108864 < size := by omega
    clear h
    go_enter Try.func6, Try.ntmps6
    go_wp2_with fail
    refine (new_refused w size HH.out).mono ?_
    rintro e w1 ⟨rfl, rfl⟩
    go_wp2_with fail
    refine (lives_calls _).mono ?_
    rintro e w2 ⟨rfl, hb⟩
    have B2 := Aside0.mk hb
    clear hb
    go_wp2_with fail
    go_ret
    exact ⟨rfl, B2.out⟩
theorem act_size (p : PD) (kind n : Int) (nm tn : List UInt8) (l : List Int) : (actP p kind n nm tn l).size = p.size := by
  unfold actP pAppend pSync pTruncate pRename pRemove pCut pCrash
  repeat' split
  all_goals rfl
structure ActV where
  kind : Int
  n : Int
  nm : ByteArray
  tn : ByteArray
  A : Option Addr
  c : Nat
  l : List Int
structure ActOk (w : World) (a : ActV) : Prop where
  n1 : -9223372036854775808 ≤ a.n
  n2 : a.n ≤ 9223372036854775807
  nm : a.nm.size ≤ maxLen
  tn : a.tn.size ≤ maxLen
  C : Kd.C (Kd.int .u8) w a.A a.l.length a.l
  c : a.l.length ≤ a.c
  at_ : ∀ x, a.A = some x → a.l ≠ [] → x.block < w.heap.size
  len : a.l.length ≤ 140737488351232
def acells (a : ActV) : List Value := [.int .i64 a.kind, .int .i64 a.n, .string a.nm, .string a.tn, .slice a.A a.l.length a.c]
def ActsAre (w : World) (A : Option Addr) (L : List ActV) : Prop := ∀ k a, L[k]? = some a → ActOk w a ∧ ∃ ad, A = some ad ∧ w.cell? (ad.add (k * 5)) = some (.int .i64 a.kind) ∧ w.cell? ⟨(ad.add (k * 5)).block, (ad.add (k * 5)).off + 1, none⟩ = some (.int .i64 a.n) ∧ w.cell? ⟨(ad.add (k * 5)).block, (ad.add (k * 5)).off + 2, none⟩ = some (.string a.nm) ∧ w.cell? ⟨(ad.add (k * 5)).block, (ad.add (k * 5)).off + 3, none⟩ = some (.string a.tn) ∧ w.cell? ⟨(ad.add (k * 5)).block, (ad.add (k * 5)).off + 4, none⟩ = some (.slice a.A a.l.length a.c)
set_option maxRecDepth 100000 in
set_option maxHeartbeats 2000000 in
theorem diskActs_calls (w : World) (size : Int) (h0 : 0 ≤ size) (h1 : size ≤ 67108864) (A : Option Addr) (c : Nat) (L : List ActV) (hL : ActsAre w A L) (hc : L.length ≤ c) (hm : c ≤ maxLen) :
    Calls Try.prog 6 #[.int .i64 size, .slice A L.length c] w fun e w' => e = .returned (.bool true) ∧ Below w.heap.size w w' := by
  have HL := Aside0.mk hL
  have hlen : L.length ≤ 9223372036854775807 := by unfold maxLen at hm; omega
  have n0 : ¬ size < 0 := by omega
  have n1 : ¬ 67108864 < size := by omega
  clear hL hm
  go_enter Try.func6, Try.ntmps6
  go_wp2_with fail
  refine (new_calls w size h0 h1).mono ?_
  rintro e w1 ⟨s0, rfl, hN0⟩
  have P0 := Aside0.mk (Pair.start (Below.refl _ w) hN0)
  obtain ⟨d, hd⟩ : ∃ d, d = s0.d := ⟨_, rfl⟩
  rw [← hd] at P0
  rw [← hd]
  clear hN0 hd
  go_wp2_with fail
  have PS := Aside0.mk (And.intro (Nat.le_refl 0) (rfl : (⟨[], size, -1, false⟩ : PD).size = size))
  go_loopw [8] (fun i wr => ∃ (k : Nat) (p : PD), i = .int .i64 k ∧ k ≤ 200 ∧ Aside0 (Pair w p p d w1.heap.size wr) ∧ Aside0 (p.F.length ≤ k ∧ p.size = size)) (fun i _ => 200 - (intOf i).toNat)
  case atStart => exact ⟨0, _, rfl, by omega, P0, PS⟩
  case round =>
    obtain ⟨k, p, rfl, hk, hP, hS⟩ := hrel
    by_cases hlt : k < 200 ∧ k < L.length
    · obtain ⟨hlt1, hlt2⟩ := hlt
      have i1 : (k : Int) < (L.length : Int) := by omega
      have i2 : (k : Int) < 200 := by omega
      obtain ⟨ok, ad, rfl, a0, a1, a2, a3, a4⟩ := HL.out k L[k] (List.getElem?_eq_getElem hlt2)
      have bw := hP.out.old
      have b0 := pw_cell_below bw a0
      have b1 := pw_cell_below bw a1
      have b2 := pw_cell_below bw a2
      have b3 := pw_cell_below bw a3
      have b4 := pw_cell_below bw a4
      have OK := Aside0.mk ok
      generalize L[k] = a at b0 b1 b2 b3 b4 OK
      clear a0 a1 a2 a3 a4 ok
      go_wp2_with fail
      refine (does_calls w wr p d w1.heap.size hP.out (by have := hS.out.1; omega) a.kind a.n OK.out.n1 OK.out.n2 a.nm a.tn OK.out.nm OK.out.tn a.A a.c a.l (Kd.C_below OK.out.C hP.out.old) OK.out.c OK.out.at_ OK.out.len).mono ?_
      rintro e w2 ⟨rfl, hP2⟩
      have P2 := Aside0.mk hP2
      clear hP2
      go_wp2_with fail
      obtain ⟨q, hq⟩ : ∃ q, q = actP p a.kind a.n a.nm.data.toList a.tn.data.toList a.l := ⟨_, rfl⟩
      have hq1 : q.F.length ≤ k + 1 := by rw [hq]; exact Nat.le_trans (len_act _ _ _ _ _ _) (by have := hS.out.1; omega)
      have hq2 : q.size = size := by rw [hq, act_size]; exact hS.out.2
      have P2' : Aside0 (Pair w q q d w1.heap.size w2) := by rw [hq]; exact P2
      have Q1 := Aside0.mk (And.intro hq1 hq2)
      clear hq P2
      refine (same_calls w w2 q d w1.heap.size P2'.out (by omega)).mono ?_
      rintro e w3 ⟨rfl, hP3⟩
      have P3 := Aside0.mk hP3
      clear hP3
      go_wp2_with fail
      refine (used_at P3.out.diskAt).mono ?_
      rintro e w4 ⟨rfl, rfl⟩
      have hroom : ¬ size < total q.F := by
        have := P3.out.diskAt.wf.room
        rw [Q1.out.2] at this
        omega
      go_wp2_with fail
      go_round
      case rel => exact ⟨k + 1, q, by go_num, by omega, P3, Q1⟩
      case measure => simp [intOf]; omega
    · have HNO := Aside0.mk (show getP (⟨#[110, 111, 110, 101, 32, 111, 102, 32, 116, 104, 101, 115, 101]⟩ : ByteArray).data.toList p.F = none from List.find?_eq_none.2 (fun f hf he => by
        have h1 := hP.out.diskAt.wf.names f hf
        rw [show f.name = _ from beq_iff_eq.1 he] at h1
        exact absurd h1 (by decide)))
      by_cases hk2 : k < L.length
      · obtain rfl : k = 200 := by omega
        have i1 : ((200 : Nat) : Int) < (L.length : Int) := by omega
        go_wp2_with fail
        refine (read_at hP.out.diskAt ⟨#[110, 111, 110, 101, 32, 111, 102, 32, 116, 104, 101, 115, 101]⟩ (by decide)).mono ?_
        rintro e w2 ⟨v2, rfl, hR, hD⟩
        rw [show (pRead p (⟨#[110, 111, 110, 101, 32, 111, 102, 32, 116, 104, 101, 115, 101]⟩ : ByteArray).data.toList).2 = false by unfold pRead; rw [HNO.out]]
        have D2 := Aside0.mk hD
        clear hR hD
        go_wp2_with fail
        refine (fast_at D2.out ⟨#[110, 111, 110, 101, 32, 111, 102, 32, 116, 104, 101, 115, 101]⟩ (by decide)).mono ?_
        rintro e w3 ⟨rfl, rfl⟩
        rw [show pFast p (⟨#[110, 111, 110, 101, 32, 111, 102, 32, 116, 104, 101, 115, 101]⟩ : ByteArray).data.toList = 0 by unfold pFast; rw [HNO.out]]
        go_wp2_with fail
        refine (lives_calls _).mono ?_
        rintro e w4 ⟨rfl, hb⟩
        have B4 := Aside0.mk hb
        clear hb
        go_wp2_with fail
        go_ret
        exact ⟨rfl, D2.out.old.trans (B4.out.mono D2.out.old.size)⟩
      · have i1 : ¬ (k : Int) < (L.length : Int) := by omega
        go_wp2_with fail
        refine (read_at hP.out.diskAt ⟨#[110, 111, 110, 101, 32, 111, 102, 32, 116, 104, 101, 115, 101]⟩ (by decide)).mono ?_
        rintro e w2 ⟨v2, rfl, hR, hD⟩
        rw [show (pRead p (⟨#[110, 111, 110, 101, 32, 111, 102, 32, 116, 104, 101, 115, 101]⟩ : ByteArray).data.toList).2 = false by unfold pRead; rw [HNO.out]]
        have D2 := Aside0.mk hD
        clear hR hD
        go_wp2_with fail
        refine (fast_at D2.out ⟨#[110, 111, 110, 101, 32, 111, 102, 32, 116, 104, 101, 115, 101]⟩ (by decide)).mono ?_
        rintro e w3 ⟨rfl, rfl⟩
        rw [show pFast p (⟨#[110, 111, 110, 101, 32, 111, 102, 32, 116, 104, 101, 115, 101]⟩ : ByteArray).data.toList = 0 by unfold pFast; rw [HNO.out]]
        go_wp2_with fail
        refine (lives_calls _).mono ?_
        rintro e w4 ⟨rfl, hb⟩
        have B4 := Aside0.mk hb
        clear hb
        go_wp2_with fail
        go_ret
        exact ⟨rfl, D2.out.old.trans (B4.out.mono D2.out.old.size)⟩
end Go.Proofs.Ytlbeehefandfhaa.Pr
end
section
namespace Go.Proofs.Ytlbeehefandfhaa.Pr
open Go.ChangeShapes Go.WideShapes Go.RowKit Go.Proofs.YtlbeehefandfhaaW.PrintWords Go.Proofs.YtlbeehefandfhaaW.PrintLast Go.Proofs.YtlbeehefandfhaaW.PrintMore
set_option maxRecDepth 100000
theorem wf64 {n : Int} (h : (Lit.int .i64 n).wf = true) : -9223372036854775808 ≤ n ∧ n ≤ 9223372036854775807 := by
  simp [Lit.wf, IntKind.min, IntKind.max, IntKind.signed, IntKind.bits] at h
  omega
end Go.Proofs.Ytlbeehefandfhaa.Pr
end
section
namespace Go.Proofs.Ytlbeehefandfhaa.Pr
open Go.ChangeShapes Go.WideShapes Go.RowKit Go.Proofs.YtlbeehefandfhaaW.PrintWords Go.Proofs.YtlbeehefandfhaaW.PrintLast Go.Proofs.YtlbeehefandfhaaW.PrintMore
set_option maxRecDepth 100000
theorem weightsAll_mem {H : Type} {P : Program} {e : TypeId} : ∀ {l : List (DataW H)} {d : DataW H}, d ∈ l → ∀ n ∈ d.weights P e, n ∈ DataW.weightsAll P e l
  | [], d, hd, n, hn => by cases hd
  | x :: l, d, hd, n, hn => by
    rw [DataW.weightsAll]
    rcases List.mem_cons.1 hd with rfl | hd
    · exact List.mem_append_left _ hn
    · exact List.mem_append_right _ (weightsAll_mem hd n hn)
theorem list_of {α : Type} {Q : Nat → α → Prop} : ∀ (n : Nat), (∀ i, i < n → ∃ x, Q i x) → ∃ L : List α, L.length = n ∧ ∀ i x, L[i]? = some x → Q i x
  | 0, _ => ⟨[], rfl, fun i x h => by simp at h⟩
  | n + 1, h => by
    obtain ⟨L, hl, hL⟩ := list_of n (fun i hi => h i (by omega))
    obtain ⟨x, hx⟩ := h n (by omega)
    refine ⟨L ++ [x], by simp [hl], fun i y hy => ?_⟩
    rcases Nat.lt_or_ge i L.length with hlt | hge
    · rw [List.getElem?_append_left hlt] at hy
      exact hL i y hy
    · have hi := (List.getElem?_eq_some_iff.1 hy).1
      rw [List.length_append, List.length_singleton] at hi
      have : i = n := by omega
      subst this
      rw [List.getElem?_append_right (by omega), hl, Nat.sub_self] at hy
      have : x = y := by simpa using hy
      subst this
      exact hx
theorem open_brow_z {H : Type} {enc : TypeId × Value → H} {w : World} {fuel : Nat} {v : Value} {x : DataW H × List MemPlace} (h : DataW.trod enc Try.prog w 0 (fun _ => true) true fuel 22 [v] = some x) :
    ∃ (l : List Int) (A : Option Addr) (cap : Nat), v = .slice A l.length cap ∧ Kd.C (Kd.int .u8) w A l.length l ∧ l.length ≤ cap ∧ l.length ≤ maxLen ∧ (∀ n ∈ l, (Lit.int .u8 n).wf = true) ∧ ((∀ n ∈ x.1.weights Try.prog 22, n ≤ reachBytes) → l.length ≤ 140737488351232) := by
  rcases open_ints Try.underlying22 Try.underlying5 (by kernel_rfl) h with ⟨hcs, _⟩ | ⟨a, len, cap, zs, hcs, _, hl, hm, hz, hx, hcell, hwz⟩
  · injection hcs with hcs _
    exact ⟨[], none, 0, hcs, Kd.C_nil _ _, Nat.le_refl _, Nat.zero_le _, (fun n hn => by cases hn), fun _ => Nat.zero_le _⟩
  · injection hcs with hcs _
    have hz' : zs.length = cap := by simpa using hz
    obtain ⟨l, hlen, hr, hml, hwl, hc⟩ := ReadsInt.ofRowC (k := .u8) (w := w) (a := some a) (len := len) (cap := cap) (zs := zs) (.inr ⟨a, rfl, hl, hm, hz', hcell, hwz⟩)
    subst hlen
    refine ⟨l, some a, cap, hcs, Kd.C_of_reads (d := (0 : Int)) (h1 := fun _ => rfl) hr, hc, hml, hwl, fun hall => ?_⟩
    have h1 := hall ((zs.take l.length).length * 1 + (zs.drop l.length).length * 1) (by
      rw [hx]
      simp only [DataW.weights, Try.underlying22, lits, List.length_map]
      rw [show Try.prog.bytesOf 5 = 1 by kernel_rfl, ← Nat.add_mul]
      exact List.mem_cons_self)
    rw [← Nat.add_mul, ← List.length_append, List.take_append_drop, hz'] at h1
    have : cap * 1 ≤ 140737488351232 := h1
    omega
end Go.Proofs.Ytlbeehefandfhaa.Pr
end
section
namespace Go.Proofs.Ytlbeehefandfhaa.Pr
open Go.ChangeShapes Go.WideShapes Go.RowKit Go.Proofs.YtlbeehefandfhaaW.PrintWords Go.Proofs.YtlbeehefandfhaaW.PrintLast Go.Proofs.YtlbeehefandfhaaW.PrintMore
set_option maxRecDepth 100000
theorem C_lt {w : World} {A : Option Addr} {l : List Int} (h : Kd.C (Kd.int .u8) w A l.length l) : ∀ x, A = some x → l ≠ [] → x.block < w.heap.size := by
  intro x hx hl
  obtain ⟨-, -, h3⟩ := Kd.reads_of_C (d := (0 : Int)) h
  have h0 : 0 < l.length := List.length_pos_iff.2 hl
  obtain ⟨ad, hA, hc⟩ := h3 h0
  obtain rfl : ad = x := by rw [hA] at hx; exact Option.some.inj hx
  have h1 := World.block_lt_of_cell? w _ (hc 0 h0)
  rwa [show (ad.add 0).block = ad.block by unfold Addr.add; split <;> rfl] at h1
theorem open_act {H : Type} {enc : TypeId × Value → H} {w : World} {fuel : Nat} {cs : List Value} {x : DataW H × List MemPlace} (h : DataW.trod enc Try.prog w 0 (fun _ => true) true fuel 53 cs = some x) :
    ∃ a : ActV, cs = acells a ∧ a.nm.size ≤ maxLen ∧ a.tn.size ≤ maxLen ∧ Kd.C (Kd.int .u8) w a.A a.l.length a.l ∧ a.l.length ≤ a.c ∧ (Lit.int .i64 a.n).wf = true ∧ ((∀ n ∈ x.1.weights Try.prog 53, n ≤ reachBytes) → a.l.length ≤ 140737488351232) := by
  obtain ⟨xs, n, hn, hx, hl, hlen, hf⟩ := DataW.trod_struct Try.underlying53 h
  have hl5 : cs.length = 5 := by rw [hl]; kernel_rfl
  obtain ⟨v0, v1, v2, v3, v4, rfl⟩ : ∃ v0 v1 v2 v3 v4, cs = [v0, v1, v2, v3, v4] := by
    match cs, hl5 with
    | [a, b, c, d, e], _ => exact ⟨a, b, c, d, e, rfl⟩
  have hxl : xs.length = 5 := hlen
  obtain ⟨y0, y1, y2, y3, y4, rfl⟩ : ∃ y0 y1 y2 y3 y4, xs = [y0, y1, y2, y3, y4] := by
    match xs, hxl with
    | [a, b, c, d, e], _ => exact ⟨a, b, c, d, e, rfl⟩
  have g0 : DataW.trod enc Try.prog w 0 (fun _ => true) true n 3 [v0] = some y0 := hf 0 _ rfl
  have g1 : DataW.trod enc Try.prog w 0 (fun _ => true) true n 3 [v1] = some y1 := hf 1 _ rfl
  have g2 : DataW.trod enc Try.prog w 0 (fun _ => true) true n 9 [v2] = some y2 := hf 2 _ rfl
  have g3 : DataW.trod enc Try.prog w 0 (fun _ => true) true n 9 [v3] = some y3 := hf 3 _ rfl
  have g4 : DataW.trod enc Try.prog w 0 (fun _ => true) true n 22 [v4] = some y4 := hf 4 _ rfl
  obtain ⟨t0, e0, _, w0⟩ := DataW.trod_int Try.underlying3 g0
  obtain ⟨t1, e1, _, w1⟩ := DataW.trod_int Try.underlying3 g1
  obtain ⟨t2, e2, _, w2⟩ := DataW.trod_string Try.underlying9 g2
  obtain ⟨t3, e3, _, w3⟩ := DataW.trod_string Try.underlying9 g3
  injection e0 with e0 _
  injection e1 with e1 _
  injection e2 with e2 _
  injection e3 with e3 _
  obtain ⟨l, A, cap, e4, hC, hc, hm, hw, hz⟩ := open_brow_z g4
  subst hx
  refine ⟨⟨t0, t1, t2, t3, A, cap, l⟩, by rw [e0, e1, e2, e3, e4]; rfl, w2, w3, hC, hc, w1, fun hall => hz (fun n hn => hall n ?_)⟩
  simp only [List.map_cons, List.map_nil, DataW.weights, Try.underlying53]
  show n ∈ DataW.weights Try.prog _ y0.1 ++ (DataW.weights Try.prog _ y1.1 ++ (DataW.weights Try.prog _ y2.1 ++ (DataW.weights Try.prog _ y3.1 ++ (DataW.weights Try.prog 22 y4.1 ++ []))))
  simp only [List.mem_append]
  exact .inr (.inr (.inr (.inr (.inl hn))))
theorem open_acts {H : Type} {enc : TypeId × Value → H} {w : World} {a : Option Addr} {len cap : Nat} {d : DataW H} {ps : List MemPlace} (hd : DataW.Trod enc Try.prog w 0 (fun _ => true) true 46 (.slice a len cap) d ps) :
    ∃ L : List ActV, len = L.length ∧ L.length ≤ cap ∧ cap ≤ maxLen ∧ ((∀ n ∈ d.weights Try.prog 46, n ≤ reachBytes) → ActsAre w a L) := by
  obtain ⟨fuel, hf⟩ := hd
  have hcs : (Value.slice a len cap).cells.toList = [.slice a len cap] := rfl
  rw [hcs] at hf
  rcases DataW.trod_slice Try.underlying46 hf with ⟨e3, _⟩ | ⟨ad, len', cap', elems, rest, m, hm, e3, z3, _, hlc, hcap, hel, helem, _, _⟩
  · injection e3 with e3 _
    injection e3 with e1 e2 e4
    subst e1 e2 e4
    exact ⟨[], rfl, by simp, by simp, fun _ k x hx => by simp at hx⟩
  · injection e3 with e3 _
    injection e3 with e1 e2 e4
    subst e1 e2 e4
    obtain ⟨rfl, -⟩ := Prod.mk.inj z3
    have hex : ∀ i, i < len → ∃ x : ActV, (∀ (j : Nat) (u : Value), (acells x)[j]? = some u → w.cell? (ad.add (i * 5 + j)) = some u) ∧ ((∀ n ∈ DataW.weights Try.prog 46 (.slice (elems.map (·.1)) (rest.map (·.1)) : DataW H), n ≤ reachBytes) → ActOk w x) := by
      intro i hi
      have h1 := helem i hi
      rw [List.getElem?_eq_getElem (by omega)] at h1
      obtain ⟨cs', h2, h3⟩ := Option.bind_eq_some_iff.mp h1
      obtain ⟨h7, h4, h5⟩ := World.cells?_some h2
      have hc4 : Try.prog.cellsOf 53 = 5 := by kernel_rfl
      rw [hc4] at h4 h5
      obtain ⟨x, rfl, q1, q2, q3, q4, q5, q6⟩ := open_act h3
      have q5' := wf64 q5
      refine ⟨x, fun j u hu => ?_, fun hall => ⟨q5'.1, q5'.2, q1, q2, q3, q4, C_lt q3, q6 (fun n hn => hall n ?_)⟩⟩
      · have hj : j < 5 := (List.getElem?_eq_some_iff.1 hu).1
        have h6 := h5 j (by omega)
        rw [add_add] at h6
        exact h6.trans hu
      · simp only [DataW.weights, Try.underlying46]
        exact List.mem_cons_of_mem _ (List.mem_append_left _ (weightsAll_mem (List.mem_map_of_mem (List.getElem_mem _)) n hn))
    obtain ⟨L, hL, hLe⟩ := list_of len hex
    subst hL
    refine ⟨L, rfl, hlc, hcap, fun hall k x hx => ?_⟩
    obtain ⟨hc, hk⟩ := hLe k x hx
    exact ⟨hk hall, ad, rfl, hc 0 _ rfl, by rw [← add_field _ _ 1 (by omega)]; exact hc 1 _ rfl, by rw [← add_field _ _ 2 (by omega)]; exact hc 2 _ rfl, by rw [← add_field _ _ 3 (by omega)]; exact hc 3 _ rfl, by rw [← add_field _ _ 4 (by omega)]; exact hc 4 _ rfl⟩
end Go.Proofs.Ytlbeehefandfhaa.Pr
end
