/- A part of the proof of the law that RowDiskActs shows: lemmas, and contracts of the calls that it reaches. -/
import Derived.Test.YtlbeehefandfhaaProg
import Derived.Below
import Derived.Deep.Draws
import Derived.Deep.AppendLies
import Derived.Maps.AppendAt
import Derived.OwnWalk
import Derived.Laws.BytesArg
import Derived.Laws.MakeOwn
import Derived.Laws.OwnMore
import Derived.Deep.OwnRows
import Derived.Tactics
import Derived.Lib.ConvBytes
import Derived.Laws.Slices
import Derived.WalkKit
import Derived.KernelRfl
import Derived.RowKit3
import Derived.Deep.LoopGhost
import Derived.Deep.QuietTactic
import Derived.BigQuiet
import Derived.WideLaws
import Derived.Deep.DeepCutAuto
import Derived.Deep.CutBlock
import Derived.Deep.RegionHeld3
import Derived.Laws.Rows
import Derived.Lib.AppendStr
import Derived.ArgAppend
import Derived.Laws.IdiomCopy
import Derived.OrdersHeld
import Derived.Laws.BitsLemmas
import Derived.RowKit
import Derived.Test.YtlbeehefandfhaaZDA0
import Derived.Deep.AppendSrc
import Derived.Maps.OwnSet
import Derived.StringKeys
import Derived.Sort.KeysCollected
import GoSem.ClaimWide
import Derived.Lib.SmallJoins
import Derived.Lib.SliceRun
set_option linter.unusedVariables false
set_option linter.unusedSimpArgs false
section
namespace Go.Proofs.Ytlbeehefandfhaa.Pr
open Go.RowKit Go.Maps Go.Proofs.YtlbeehefandfhaaW.PrintWords Go.Proofs.YtlbeehefandfhaaW.PrintLast Go.Proofs.YtlbeehefandfhaaW.PrintMore
def DRow (w : World) (B : Nat) (v : Value) (bs : List Int) : Prop :=
  (v = .slice none 0 0 ∧ bs = []) ∨ ∃ g cap cur, v = .slice (some ⟨g, 0, none⟩) bs.length cap ∧ B ≤ g ∧ w.heap[g]? = some (.cells cur 5 (0, 0)) ∧ bs.length ≤ cap ∧ cap ≤ maxLen ∧ cap ≤ cur.size ∧ cur.toList.take bs.length = nums .u8 bs
section
variable {w w1 : World} {B : Nat} {v : Value} {bs : List Int}
theorem DRow.nil (w : World) (B : Nat) : DRow w B (.slice none 0 0) [] := .inl ⟨rfl, rfl⟩
theorem DRow.typed (h : DRow w B v bs) (k : Nat) (hk : v.ownBlock = some k) : B ≤ k ∧ k < w.heap.size ∧ ∃ cur, w.heap[k]? = some (.cells cur 5 (0, 0)) := by
  rcases h with ⟨rfl, _⟩ | ⟨g, cap, cur, rfl, hb, hh, _⟩
  · simp [Value.ownBlock] at hk
  · have : g = k := by simpa [Value.ownBlock] using hk
    subst this
    exact ⟨hb, (Array.getElem?_eq_some_iff.1 hh).1, cur, hh⟩
theorem DRow.move (h : DRow w B v bs) (hm : ∀ k, v.ownBlock = some k → w1.heap[k]? = w.heap[k]?) : DRow w1 B v bs := by
  rcases h with h | ⟨g, cap, cur, rfl, hb, hh, r⟩
  · exact .inl h
  · exact .inr ⟨g, cap, cur, rfl, hb, (hm g (by simp [Value.ownBlock])).trans hh, r⟩
theorem DRow.slice (h : DRow w B v bs) : ∃ A c, v = .slice A bs.length c ∧ bs.length ≤ c ∧ c ≤ maxLen := by
  rcases h with ⟨rfl, rfl⟩ | ⟨g, cap, cur, rfl, hb, hh, h1, h2, _⟩
  · exact ⟨none, 0, rfl, Nat.le_refl _, Nat.zero_le _⟩
  · exact ⟨_, cap, rfl, h1, h2⟩
theorem DRow.reads {A : Option Addr} {n c : Nat} (h : DRow w B (.slice A n c) bs) : n = bs.length ∧ Kd.C (Kd.int .u8) w A bs.length bs := by
  rcases h with ⟨he, rfl⟩ | ⟨g, cap, cur, he, hb, hh, h1, h2, h3, h4⟩
  · injection he with ha hn hc
    exact ⟨hn, Kd.C_of_reads (d := (0 : Int)) ⟨rfl, by simp, fun h => by simp at h⟩⟩
  · injection he with ha hn hc
    subst ha
    refine ⟨hn, Kd.C_of_reads (d := (0 : Int)) ⟨rfl, by simp only [maxLen] at h2; omega, fun _ => ⟨_, rfl, fun j hj => ?_⟩⟩⟩
    rw [add_plain, cell_of_row w g j cur _ _ hh]
    have : (cur.toList.take bs.length)[j]? = (nums .u8 bs)[j]? := by rw [h4]
    rw [List.getElem?_take, if_pos hj] at this
    rw [← Array.getElem?_toList, this]
    simp [nums, List.getD_eq_getElem?_getD, List.getElem?_eq_getElem hj]
theorem DRow.cut {A : Option Addr} {n c : Nat} (h : DRow w B (.slice A n c) bs) (m c' : Nat) (hm : m ≤ bs.length) (h1 : m ≤ c') (h2 : c' ≤ c) : DRow w B (.slice A m c') (bs.take m) := by
  rcases h with ⟨he, rfl⟩ | ⟨g, cap, cur, he, hb, hh, hl, hx, hz, ht⟩
  · injection he with ha hn hc
    subst ha; subst hc
    obtain rfl : m = 0 := by simpa using hm
    obtain rfl : c' = 0 := by omega
    exact .inl ⟨rfl, by simp⟩
  · injection he with ha hn hc
    subst ha; subst hc
    have hlen : (bs.take m).length = m := by rw [List.length_take]; omega
    refine .inr ⟨g, c', cur, by rw [hlen], hb, hh, by rw [hlen]; exact h1, by omega, by omega, ?_⟩
    rw [hlen]
    have : (cur.toList.take bs.length).take m = (nums .u8 bs).take m := by rw [ht]
    rw [List.take_take, Nat.min_eq_left hm] at this
    rw [this]
    simp [nums, List.map_take]
end
theorem src_of_C {w : World} {A : Option Addr} {l : List Int} {c : Nat} (h : Kd.C (Kd.int .u8) w A l.length l) (hc : l.length ≤ c) : Src Try.prog 1 22 (.slice A l.length c) l.length (nums .u8 l) w := by
  obtain ⟨h1, h2, h3⟩ := Kd.reads_of_C (d := (0 : Int)) h
  by_cases hl : 0 < l.length
  · obtain ⟨ad, rfl, hcell⟩ := h3 hl
    refine Src.ofSlice w Try.underlying22 ad l.length c (nums .u8 l) (by rw [nums_length, Nat.mul_one]) (fun j u hu => ?_) (fun u hu => ?_)
    · have hj : j < l.length := by
        have := (List.getElem?_eq_some_iff.1 hu).1
        rwa [nums_length] at this
      rw [hcell j hj]
      rw [← hu]
      simp [nums, List.getD_eq_getElem?_getD, List.getElem?_eq_getElem hj]
    · obtain ⟨x, _, rfl⟩ := List.mem_map.1 hu
      rfl
  · obtain rfl : l = [] := List.length_eq_zero_iff.1 (by omega)
    cases A with
    | none => exact Src.ofNil w Try.underlying22 c
    | some ad => exact Src.ofSlice w Try.underlying22 ad 0 c [] rfl (fun j u hu => by simp at hu) (fun u hu => by simp at hu)
theorem ni5 : (Try.prog.info? 5).map (fun i => (i.zero, i.size, i.bytes)) = some (some (.int .u8 0), 1, 1) := by kernel_rfl
theorem run_append_d (w : World) (B : Nat) (v : Value) (bs l : List Int) (hown : DRow w B v bs) (X : Value) (hs : Src Try.prog 1 22 X l.length (nums .u8 l) w) (hb : bs.length + l.length ≤ 140737488355328) (hB : B ≤ w.heap.size) (ty : TypeId) :
    ∃ v' w', (Builtin.append_ #[22, 22] ty #[v, X]).run Try.prog w = .ok v' w' ∧ DRow w' B v' (bs ++ l) ∧ w.grownBy w' v.ownBlock ∧ (v'.ownBlock = v.ownBlock ∨ v'.ownBlock = some w.heap.size) := by
  obtain ⟨i, hi, hz, hsz, hby⟩ := info_parts ni5
  have ht := Try.underlying22
  have hlen : (bs ++ l).length = bs.length + l.length := List.length_append
  rw [← hsz] at hs
  have grown : ∀ (old : Nat) (row : Option Nat), DRow (w.drew.alloc (.cells ((nums .u8 bs ++ nums .u8 l).toArray ++ Builtin.zeroCells (Value.int .u8 0).cells (grownCap w (bs.length + l.length) old 5 - (bs.length + l.length))) 5)) B
        (.slice (some ⟨w.heap.size, 0, none⟩) (bs.length + l.length) (grownCap w (bs.length + l.length) old 5)) (bs ++ l) ∧
      w.grownBy (w.drew.alloc (.cells ((nums .u8 bs ++ nums .u8 l).toArray ++ Builtin.zeroCells (Value.int .u8 0).cells (grownCap w (bs.length + l.length) old 5 - (bs.length + l.length))) 5)) row := by
    intro old row
    have hge := grownCap_ge w (bs.length + l.length) old 5
    have hcm : grownCap w (bs.length + l.length) old 5 ≤ maxLen := grownCap_le_maxLen w (bs.length + l.length) old 5 (by unfold maxLen; omega)
    refine ⟨.inr ⟨w.heap.size, _, _, by rw [hlen], hB, heap_alloc_new w.drew _, by rw [hlen]; exact hge, hcm, ?_, ?_⟩, ⟨rfl, rfl, rfl, by simp, fun k hk _ => Below.heap_alloc w.drew _ k hk⟩⟩
    · simp only [Array.size_append, List.size_toArray, size_zeroCells, List.length_append, nums_length]
      simp [Value.cells]
      omega
    · simp only [Array.toList_append, List.append_assoc]
      rw [← List.append_assoc, ← nums_append, List.take_left' (by rw [nums_length])]
  have grows : ∀ (A : Option Addr) (cap : Nat), cap < bs.length + l.length → v = .slice A bs.length cap → (Builtin.firstCells i.size bs.length (.slice A bs.length cap)).run Try.prog w.drew = .ok (nums .u8 bs).toArray w.drew →
      ∃ v' w', (Builtin.append_ #[22, 22] ty #[v, X]).run Try.prog w = .ok v' w' ∧ DRow w' B v' (bs ++ l) ∧ w.grownBy w' v.ownBlock ∧ (v'.ownBlock = v.ownBlock ∨ v'.ownBlock = some w.heap.size) := by
    intro A cap hcap hv hold
    have hr := run_append_grow_src (P := Try.prog) w 22 22 ty 5 i (.int .u8 0) ht hi hz A bs.length cap (nums .u8 bs) hold X l.length (nums .u8 l) hs hcap (by omega) (by rw [hby]; exact growslice_fits (by omega) (by omega))
    obtain ⟨g1, g2⟩ := grown cap v.ownBlock
    exact ⟨_, _, by rw [hv]; exact hr, g1, g2, .inr rfl⟩
  rcases hown with ⟨rfl, rfl⟩ | ⟨g, cap, cur, rfl, hbg, hg, hnc, hcm, hcs, htake⟩
  · by_cases hm : l.length = 0
    · have hl : l = [] := List.length_eq_zero_iff.1 hm
      subst hl
      refine ⟨.slice none 0 0, w, ?_, .inl ⟨rfl, rfl⟩, ⟨rfl, rfl, rfl, Nat.le_refl _, fun _ _ _ => rfl⟩, .inl rfl⟩
      have hl0 : ∀ w', (Builtin.lenOf (.slice none 0 0)).run Try.prog w' = .ok 0 w' := fun _ => rfl
      have hx0 := hs.len
      have hx1 := hs.cells
      simp only [List.length_nil] at hx0 hx1
      simp [Builtin.append_, run_underlying ht, sizeOf, typeInfo, hi, hx0, hx1, hl0, nums]
    · exact grows none 0 (by simp; omega) rfl (run_firstCells_none w.drew i.size 0 0 0)
  · by_cases hroom : bs.length + l.length ≤ cap
    · have hfit : bs.length + (nums .u8 l).length ≤ cur.size := by rw [nums_length]; omega
      have hr := run_append_room_src (P := Try.prog) w 22 22 ty 5 i ht hi g 0 bs.length cap X l.length (nums .u8 l) hs hroom
        (fun j hj => by rw [cell_of_row w g _ cur _ (0, 0) hg, hsz]; simp; omega) (fun j _ => blk_frozen hg _)
      rw [hsz, Nat.mul_one, Nat.zero_add] at hr
      obtain ⟨cur', h3, h4, h5⟩ := setCells_row (nums .u8 l) bs.length w cur hg hfit
      obtain ⟨s1, s2, s3, s4⟩ := setCells_same g (nums .u8 l) bs.length w
      refine ⟨_, _, hr, .inr ⟨g, cap, cur', by rw [hlen], hbg, h3, by rw [hlen]; exact hroom, hcm, by rw [h4]; exact hcs, ?_⟩,
        ⟨s1, s2, s3, by rw [s4]; exact Nat.le_refl _, fun k _ hk => setCells_far (nums .u8 l) _ k (fun he => hk (by rw [he]; simp [Value.ownBlock]))⟩, .inl rfl⟩
      rw [h5, htake, ← nums_append]
      exact List.take_left' (by rw [nums_length])
    · refine grows _ cap (by omega) rfl (run_firstCells_some w.drew i.size bs.length ⟨g, 0, none⟩ bs.length cap (nums .u8 bs) (by rw [nums_length, hsz, Nat.mul_one]) (fun j u hu => ?_))
      rw [add_plain]
      show w.cell? _ = _
      rw [cell_of_row w g _ cur _ (0, 0) hg]
      rw [← htake, List.getElem?_take] at hu
      split at hu
      · rw [← Array.getElem?_toList]
        exact hu
      · cases hu
theorem wpList_append_d {w : World} {ops : Array Oper} {rest : List Oper} {o : Oper} {a : Act} {Q : Exit → Act → World → Prop} (hgd : o.guard = none) (s x : Operand)
    (ho : o.op = .call { callee := .builtin .append, args := #[s, x], argTypes := #[22, 22] }) (B : Nat) (v : Value) (bs l : List Int) (hs : a.eval s = v) (hown : DRow w B v bs) (X : Value) (hx : a.eval x = X)
    (hsrc : Src Try.prog 1 22 X l.length (nums .u8 l) w) (hb : bs.length + l.length ≤ 140737488355328) (hB : B ≤ w.heap.size)
    (h : ∀ v' w', DRow w' B v' (bs ++ l) → w.grownBy w' v.ownBlock → (v'.ownBlock = v.ownBlock ∨ v'.ownBlock = some w.heap.size) → wpList Try.prog ops Q rest (a.put o.dst v') w') :
    wpList Try.prog ops Q (o :: rest) a w := by
  refine wpList_plain hgd fun K hK => ?_
  obtain ⟨v', w', hr, h2, h3, h4⟩ := run_append_d w B v bs l hown X hsrc hb hB o.type
  unfold Oper.wp execOp
  simp only [ho, resolve, invoke, builtin, Sem.run_bind, Sem.run_pure, Result.andThen_ok, List.map_toArray, List.map_cons, List.map_nil, hs, hx, hr]
  exact hK _ _ (h v' w' h2 h3 h4)
end Go.Proofs.Ytlbeehefandfhaa.Pr
end
section
namespace Go.Proofs.Ytlbeehefandfhaa.Pr
open Go.RowKit Go.Maps Go.Proofs.YtlbeehefandfhaaW.PrintWords Go.Proofs.YtlbeehefandfhaaW.PrintLast Go.Proofs.YtlbeehefandfhaaW.PrintMore
structure FileM where
  name : List UInt8
  p : Nat
  v : Value
  bs : List Int
  fast : Nat
structure DiskM where
  d : Nat
  m : Nat
  L : List FileM
  size : Int
  used : Int
  calls : Int
  out : Bool
structure FileIs (w : World) (B : Nat) (f : FileM) : Prop where
  pB : B ≤ f.p
  head : w.heap[f.p]? = some (.cells #[f.v, .int .i64 f.fast] 62 (0, 0))
  row : DRow w B f.v f.bs
def ptrE : Value → Option (DataW Nat × List MemPlace)
  | .pointer (some ⟨p, 0, none⟩) => some (.held p, [])
  | .pointer none => some (.nil, [])
  | _ => none
def entE (f : FileM) : Lit × DataW Nat := (.string f.name, .held f.p)
def cellsD (s : DiskM) : Array Value := #[.map (some s.m), .int .i64 s.size, .int .i64 s.used, .int .i64 s.calls, .bool s.out]
def ApartF (f g : FileM) : Prop := f.p ≠ g.p ∧ ∀ k, f.v.ownBlock = some k → g.v.ownBlock ≠ some k
theorem ApartF.symm {f g : FileM} (h : ApartF f g) : ApartF g f := ⟨fun e => h.1 e.symm, fun k hk hf => h.2 k hf hk⟩
structure DiskIs (w : World) (B : Nat) (s : DiskM) : Prop where
  dB : B ≤ s.d
  mB : B ≤ s.m
  head : w.heap[s.d]? = some (.cells (cellsD s) 58 (0, 0))
  map : w.ownsMap Try.prog 9 ptrE s.m s.L.length (.map (s.L.map entE))
  file : ∀ f ∈ s.L, FileIs w B f
  apart : s.L.Pairwise ApartF
def Foot20 (s : DiskM) (k : Nat) : Prop := k = s.d ∨ k = s.m ∨ ∃ f ∈ s.L, k = f.p ∨ f.v.ownBlock = some k
structure Moved (F : Nat → Prop) (w w' : World) : Prop where
  os : w'.os = w.os
  tape : w'.tape = w.tape
  output : w'.output = w.output
  size : w.heap.size ≤ w'.heap.size
  block : ∀ k, k < w.heap.size → ¬ F k → w'.heap[k]? = w.heap[k]?
theorem Moved.refl (F : Nat → Prop) (w : World) : Moved F w w := ⟨rfl, rfl, rfl, Nat.le_refl _, fun _ _ _ => rfl⟩
theorem Moved.drewN {F : Nat → Prop} {w w' : World} (h : Moved F w w') (n : Nat) : Moved F w (w'.drewN n) := ⟨h.os, h.tape, h.output, h.size, h.block⟩
theorem Moved.alloc {F : Nat → Prop} {w w' : World} (h : Moved F w w') (o : Obj) : Moved F w (w'.alloc o) :=
  ⟨h.os, h.tape, h.output, by have := h.size; simp; omega, fun k hk hF => (Below.heap_alloc w' o k (Nat.lt_of_lt_of_le hk h.size)).trans (h.block k hk hF)⟩
theorem Moved.setCell {F : Nat → Prop} {w w' : World} (h : Moved F w w') {a : Addr} (ha : F a.block ∨ w.heap.size ≤ a.block) (v : Value) : Moved F w (w'.setCell a v) :=
  ⟨h.os, h.tape, h.output, by have := h.size; simpa [World.setCell] using this, fun k hk hF => (Below.heap_setCell w' a v k (fun e => by subst e; exact ha.elim hF (fun h => by omega))).trans (h.block k hk hF)⟩
theorem Moved.grown {F : Nat → Prop} {w w1 w2 : World} (h : Moved F w w1) {row : Option Nat} (hg : w1.grownBy w2 row) (hr : ∀ k, row = some k → F k ∨ w.heap.size ≤ k) : Moved F w w2 :=
  ⟨hg.os.trans h.os, hg.tape.trans h.tape, hg.output.trans h.output, Nat.le_trans h.size hg.size, fun k hk hF => (hg.block k (Nat.lt_of_lt_of_le hk h.size) (fun e => (hr k e.symm).elim hF (fun h => by omega))).trans (h.block k hk hF)⟩
theorem Moved.imp {F F' : Nat → Prop} {w w' : World} (h : Moved F w w') (hF : ∀ k, k < w.heap.size → F k → F' k) : Moved F' w w' := ⟨h.os, h.tape, h.output, h.size, fun k hk hn => h.block k hk (fun hf => hn (hF k hk hf))⟩
theorem Moved.trans {F G : Nat → Prop} {a b c : World} (h : Moved F a b) (k : Moved G b c) (hG : ∀ i, G i → F i ∨ a.heap.size ≤ i) : Moved F a c :=
  ⟨k.os.trans h.os, k.tape.trans h.tape, k.output.trans h.output, Nat.le_trans h.size k.size, fun i hi hF => (k.block i (Nat.lt_of_lt_of_le hi h.size) (fun hg => (hG i hg).elim hF (fun h => by omega))).trans (h.block i hi hF)⟩
theorem Moved.below {F : Nat → Prop} {w w' : World} {B : Nat} (h : Moved F w w') (hF : ∀ k, F k → B ≤ k) (hB : B ≤ w.heap.size) : Below B w w' :=
  ⟨h.os, h.tape, h.output, h.size, fun k hk => h.block k (by omega) (fun hf => by have := hF k hf; omega)⟩
theorem Moved.of_below {F : Nat → Prop} {w w' : World} (h : Below w.heap.size w w') : Moved F w w' := ⟨h.os, h.tape, h.output, h.size, fun k hk _ => h.block k hk⟩
structure StepD (w : World) (s : DiskM) (w' : World) (s' : DiskM) : Prop where
  moved : Moved (Foot20 s) w w'
  foot : ∀ k, Foot20 s' k → Foot20 s k ∨ w.heap.size ≤ k
theorem StepD.refl (w : World) (s : DiskM) : StepD w s w s := ⟨Moved.refl _ w, fun k hk => .inl hk⟩
theorem StepD.trans {w w1 w2 : World} {s s1 s2 : DiskM} (h : StepD w s w1 s1) (k : StepD w1 s1 w2 s2) : StepD w s w2 s2 :=
  ⟨h.moved.trans k.moved h.foot, fun i hi => by
    rcases k.foot i hi with h1 | h1
    · exact h.foot i h1
    · exact .inr (Nat.le_trans h.moved.size h1)⟩
section
variable {w w' : World} {B : Nat} {s s' : DiskM}
theorem DiskIs.foot (h : DiskIs w B s) {k : Nat} (hk : Foot20 s k) : B ≤ k ∧ k < w.heap.size := by
  rcases hk with rfl | rfl | ⟨f, hf, rfl | hk⟩
  · exact ⟨h.dB, (Array.getElem?_eq_some_iff.1 h.head).1⟩
  · exact ⟨h.mB, h.map.lt⟩
  · exact ⟨(h.file f hf).pB, (Array.getElem?_eq_some_iff.1 (h.file f hf).head).1⟩
  · obtain ⟨h1, h2, _⟩ := (h.file f hf).row.typed k hk
    exact ⟨h1, h2⟩
theorem DiskIs.le (h : DiskIs w B s) : B ≤ w.heap.size := by have := h.foot (k := s.d) (.inl rfl); omega
theorem StepD.below (k : StepD w s w' s') (h : DiskIs w B s) : Below B w w' := k.moved.below (fun i hi => (h.foot hi).1) h.le
theorem FileIs.move {f : FileM} (h : FileIs w B f) (hp : w'.heap[f.p]? = w.heap[f.p]?) (hv : ∀ k, f.v.ownBlock = some k → w'.heap[k]? = w.heap[k]?) : FileIs w' B f := ⟨h.pB, hp.trans h.head, h.row.move hv⟩
theorem owns_move {n : Nat} {m : Nat} {D : DataW Nat} (h : w.ownsMap Try.prog 9 ptrE m n D) (hm : w'.heap[m]? = w.heap[m]?) : w'.ownsMap Try.prog 9 ptrE m n D := by
  obtain ⟨es, clock, hb, r⟩ := h
  exact ⟨es, clock, hm.trans hb, r⟩
theorem DiskIs.move (h : DiskIs w B s) (hm : ∀ k, Foot20 s k → w'.heap[k]? = w.heap[k]?) : DiskIs w' B s :=
  ⟨h.dB, h.mB, (hm _ (.inl rfl)).trans h.head, owns_move h.map (hm _ (.inr (.inl rfl))), fun f hf => (h.file f hf).move (hm _ (.inr (.inr ⟨f, hf, .inl rfl⟩))) (fun k hk => hm _ (.inr (.inr ⟨f, hf, .inr hk⟩))), h.apart⟩
theorem DiskIs.below (h : DiskIs w B s) (hb : Below w.heap.size w w') : DiskIs w' B s := h.move fun k hk => hb.block k (h.foot hk).2
theorem DiskIs.drewN (h : DiskIs w B s) (n : Nat) : DiskIs (w.drewN n) B s := h.move fun _ _ => rfl
theorem DiskIs.drew (h : DiskIs w B s) : DiskIs w.drew B s := h.move fun _ _ => rfl
theorem DiskIs.alloc (h : DiskIs w B s) (o : Obj) : DiskIs (w.alloc o) B s := h.move fun k hk => Below.heap_alloc w o k (h.foot hk).2
theorem DiskIs.dm (h : DiskIs w B s) : s.d ≠ s.m := fun e => by
  obtain ⟨es, clock, hb, _⟩ := h.map
  have := h.head
  rw [e, hb] at this
  cases this
theorem DiskIs.df (h : DiskIs w B s) {f : FileM} (hf : f ∈ s.L) : f.p ≠ s.d := fun e => by
  have h1 := (h.file f hf).head
  rw [e, h.head] at h1
  injection h1 with h1
  injection h1 with _ h1
  cases h1
theorem DiskIs.mf (h : DiskIs w B s) {f : FileM} (hf : f ∈ s.L) : f.p ≠ s.m := fun e => by
  obtain ⟨es, clock, hb, _⟩ := h.map
  have h1 := (h.file f hf).head
  rw [e, hb] at h1
  cases h1
theorem DiskIs.dr (h : DiskIs w B s) {f : FileM} (hf : f ∈ s.L) {k : Nat} (hk : f.v.ownBlock = some k) : k ≠ s.d := fun e => by
  obtain ⟨_, _, cur, hc⟩ := (h.file f hf).row.typed k hk
  rw [e, h.head] at hc
  injection hc with hc
  injection hc with _ hc
  cases hc
theorem DiskIs.mr (h : DiskIs w B s) {f : FileM} (hf : f ∈ s.L) {k : Nat} (hk : f.v.ownBlock = some k) : k ≠ s.m := fun e => by
  obtain ⟨_, _, cur, hc⟩ := (h.file f hf).row.typed k hk
  obtain ⟨es, clock, hb, _⟩ := h.map
  rw [e, hb] at hc
  cases hc
theorem DiskIs.fr (h : DiskIs w B s) {f g : FileM} (hf : f ∈ s.L) (hg : g ∈ s.L) {k : Nat} (hk : f.v.ownBlock = some k) : k ≠ g.p := fun e => by
  obtain ⟨_, _, cur, hc⟩ := (h.file f hf).row.typed k hk
  rw [e, (h.file g hg).head] at hc
  injection hc with hc
  injection hc with _ hc
  cases hc
theorem DiskIs.upd (h : DiskIs w B s) {L1 L2 : List FileM} {f f' : FileM} (hL : s.L = L1 ++ f :: L2) (hd : s'.d = s.d) (hm : s'.m = s.m) (hs' : s'.L = L1 ++ f' :: L2) (hn : f'.name = f.name) (hp : f'.p = f.p)
    (hhead : w'.heap[s.d]? = some (.cells (cellsD s') 58 (0, 0))) (hfile : FileIs w' B f') (hat : ∀ k, f'.v.ownBlock = some k → f.v.ownBlock = some k ∨ w.heap.size ≤ k)
    (hmv : ∀ k, Foot20 s k → k ≠ s.d → k ≠ f.p → f.v.ownBlock ≠ some k → w'.heap[k]? = w.heap[k]?) : DiskIs w' B s' ∧ ∀ k, Foot20 s' k → Foot20 s k ∨ w.heap.size ≤ k := by
  have hfm : f ∈ s.L := by rw [hL]; simp
  have hap := h.apart
  rw [hL] at hap
  obtain ⟨ap1, ap2, ap3⟩ := List.pairwise_append.1 hap
  obtain ⟨ap4, ap5⟩ := List.pairwise_cons.1 ap2
  have oth : ∀ g, g ∈ L1 ∨ g ∈ L2 → g ∈ s.L ∧ ApartF f g := fun g hg => by
    rcases hg with hg | hg
    · exact ⟨by rw [hL]; simp [hg], (ap3 g hg f (by simp)).symm⟩
    · exact ⟨by rw [hL]; simp [hg], ap4 g hg⟩
  have hnew : ∀ g, g ∈ L1 ∨ g ∈ L2 → ApartF f' g := fun g hg => by
    obtain ⟨hgm, hfg⟩ := oth g hg
    refine ⟨by rw [hp]; exact hfg.1, fun k hk hk2 => ?_⟩
    rcases hat k hk with h1 | h1
    · exact hfg.2 k h1 hk2
    · have := (h.foot (k := k) (.inr (.inr ⟨g, hgm, .inr hk2⟩))).2
      omega
  have hfile' : ∀ g, g ∈ L1 ∨ g ∈ L2 → FileIs w' B g := fun g hg => by
    obtain ⟨hgm, hfg⟩ := oth g hg
    refine (h.file g hgm).move (hmv _ (.inr (.inr ⟨g, hgm, .inl rfl⟩)) (h.df hgm) (fun e => hfg.1 e.symm) (fun e => h.fr hfm hgm e rfl)) (fun k hk => ?_)
    exact hmv _ (.inr (.inr ⟨g, hgm, .inr hk⟩)) (h.dr hgm hk) (h.fr hgm hfm hk) (fun e => hfg.2 k e hk)
  have hent : s'.L.map entE = s.L.map entE := by rw [hs', hL]; simp [entE, hn, hp]
  refine ⟨⟨by rw [hd]; exact h.dB, by rw [hm]; exact h.mB, by rw [hd]; exact hhead, ?_, fun g hg => ?_, ?_⟩, fun k hk => ?_⟩
  · rw [hent, show s'.L.length = s.L.length by rw [hs', hL]; simp, hm]
    exact owns_move h.map (hmv _ (.inr (.inl rfl)) (fun e => h.dm e.symm) (fun e => h.mf hfm e.symm) (fun e => h.mr hfm e rfl))
  · rw [hs'] at hg
    rcases List.mem_append.1 hg with hg | hg
    · exact hfile' g (.inl hg)
    · rcases List.mem_cons.1 hg with rfl | hg
      · exact hfile
      · exact hfile' g (.inr hg)
  · rw [hs']
    refine List.pairwise_append.2 ⟨ap1, List.pairwise_cons.2 ⟨fun g hg => hnew g (.inr hg), ap5⟩, fun a ha b hb => ?_⟩
    rcases List.mem_cons.1 hb with rfl | hb
    · exact (hnew a (.inl ha)).symm
    · exact ap3 a ha b (List.mem_cons_of_mem _ hb)
  · rcases hk with rfl | rfl | ⟨g, hg, hk⟩
    · exact .inl (.inl hd)
    · exact .inl (.inr (.inl hm))
    · rw [hs'] at hg
      have hcase : (g ∈ L1 ∨ g ∈ L2) ∨ g = f' := by
        rcases List.mem_append.1 hg with hg | hg
        · exact .inl (.inl hg)
        · rcases List.mem_cons.1 hg with hg | hg
          · exact .inr hg
          · exact .inl (.inr hg)
      rcases hcase with hg | rfl
      · exact .inl (.inr (.inr ⟨g, (oth g hg).1, hk⟩))
      · rcases hk with rfl | hk
        · exact .inl (.inr (.inr ⟨f, hfm, .inl hp⟩))
        · rcases hat k hk with h1 | h1
          · exact .inl (.inr (.inr ⟨f, hfm, .inr h1⟩))
          · exact .inr h1
theorem DiskIs.headed (h : DiskIs w B s) (hd : s'.d = s.d) (hm : s'.m = s.m) (hL : s'.L = s.L) (hhead : w'.heap[s.d]? = some (.cells (cellsD s') 58 (0, 0))) (hmv : ∀ k, k < w.heap.size → k ≠ s.d → w'.heap[k]? = w.heap[k]?) : DiskIs w' B s' ∧ ∀ k, Foot20 s' k → Foot20 s k ∨ w.heap.size ≤ k := by
  refine ⟨⟨by rw [hd]; exact h.dB, by rw [hm]; exact h.mB, by rw [hd]; exact hhead, by rw [hL, hm]; exact owns_move h.map (hmv _ h.map.lt (fun e => h.dm e.symm)), fun f hf => ?_, by rw [hL]; exact h.apart⟩, fun k hk => .inl ?_⟩
  · rw [hL] at hf
    exact (h.file f hf).move (hmv _ (h.foot (.inr (.inr ⟨f, hf, .inl rfl⟩))).2 (h.df hf)) (fun k hk => hmv _ (h.foot (.inr (.inr ⟨f, hf, .inr hk⟩))).2 (h.dr hf hk))
  · rcases hk with rfl | rfl | ⟨g, hg, hk⟩
    · exact .inl hd
    · exact .inr (.inl hm)
    · exact .inr (.inr ⟨g, by rw [← hL]; exact hg, hk⟩)
theorem DiskIs.remap (h : DiskIs w B s) (hd : s'.d = s.d) (hm : s'.m = s.m) (hhead : w'.heap[s.d]? = some (.cells (cellsD s') 58 (0, 0)))
    (hmap : w'.ownsMap Try.prog 9 ptrE s.m s'.L.length (.map (s'.L.map entE))) (hap : s'.L.Pairwise ApartF)
    (hfile : ∀ f ∈ s'.L, (∃ g ∈ s.L, f.p = g.p ∧ f.v = g.v ∧ f.bs = g.bs ∧ f.fast = g.fast) ∨ (FileIs w' B f ∧ w.heap.size ≤ f.p ∧ ∀ k, f.v.ownBlock = some k → w.heap.size ≤ k))
    (hmv : ∀ k, k < w.heap.size → k ≠ s.d → k ≠ s.m → w'.heap[k]? = w.heap[k]?) : DiskIs w' B s' ∧ ∀ k, Foot20 s' k → Foot20 s k ∨ w.heap.size ≤ k := by
  refine ⟨⟨by rw [hd]; exact h.dB, by rw [hm]; exact h.mB, by rw [hd]; exact hhead, by rw [hm]; exact hmap, fun f hf => ?_, hap⟩, fun k hk => ?_⟩
  · rcases hfile f hf with ⟨g, hg, e1, e2, e3, e4⟩ | ⟨hF, _⟩
    · have := (h.file g hg).move (w' := w') (hmv _ (h.foot (.inr (.inr ⟨g, hg, .inl rfl⟩))).2 (h.df hg) (h.mf hg)) (fun k hk => hmv _ (h.foot (.inr (.inr ⟨g, hg, .inr hk⟩))).2 (h.dr hg hk) (h.mr hg hk))
      exact ⟨by rw [e1]; exact this.pB, by rw [e1, e2, e4]; exact this.head, by rw [e2, e3]; exact this.row⟩
    · exact hF
  · rcases hk with rfl | rfl | ⟨f, hf, hk⟩
    · exact .inl (.inl hd)
    · exact .inl (.inr (.inl hm))
    · rcases hfile f hf with ⟨g, hg, e1, e2, e3, e4⟩ | ⟨_, h1, h2⟩
      · exact .inl (.inr (.inr ⟨g, hg, by rw [← e1, ← e2]; exact hk⟩))
      · rcases hk with rfl | hk
        · exact .inr h1
        · exact .inr (h2 k hk)
end
def insF (f : FileM) : List FileM → List FileM
  | [] => [f]
  | g :: r => if bytesBefore f.name g.name then f :: g :: r else g :: insF f r
def delF (n : List UInt8) (L : List FileM) : List FileM := L.filter fun f => !(f.name == n)
def getF (n : List UInt8) (L : List FileM) : Option FileM := L.find? fun f => f.name == n
theorem insF_perm (f : FileM) : ∀ L, (insF f L).Perm (f :: L)
  | [] => List.Perm.refl _
  | g :: r => by
    unfold insF
    split
    · exact List.Perm.refl _
    · exact ((insF_perm f r).cons g).trans (List.Perm.swap f g r)
theorem insert_ent (f : FileM) : ∀ L : List FileM, DataW.insert (entE f) (L.map entE) = (insF f L).map entE
  | [] => rfl
  | g :: r => by
    simp only [List.map_cons, DataW.insert, insF]
    show (if bytesBefore f.name g.name = true then _ else _) = _
    split
    · rfl
    · rw [insert_ent f r]; rfl
theorem filter_ent (n : List UInt8) (L : List FileM) : (L.map entE).filter (fun p => !p.1.sameKey (.string n)) = (delF n L).map entE := by
  unfold delF
  rw [List.filter_map]
  rfl
theorem del_ent (n : List UInt8) (L : List FileM) : (DataW.map (L.map entE)).del (.string n) = .map ((delF n L).map entE) := by
  show DataW.map _ = _
  rw [filter_ent]
theorem put_ent (f : FileM) (L : List FileM) : (DataW.map (L.map entE)).put (.string f.name) (.held f.p) = .map ((insF f (delF f.name L)).map entE) := by
  show DataW.map _ = _
  rw [filter_ent, ← insert_ent]
  rfl
theorem find_ent (n : List UInt8) : ∀ L : List FileM, (L.map entE).find? (fun p => p.1.sameKey (.string n)) = (getF n L).map entE
  | [] => rfl
  | f :: r => by
    unfold getF
    rw [List.map_cons, List.find?_cons, List.find?_cons]
    show (match (f.name == n) with | true => _ | false => _) = _
    cases hf : (f.name == n) with
    | true => rfl
    | false => exact find_ent n r
theorem atKey_ent (n : List UInt8) (L : List FileM) : (DataW.map (L.map entE)).atKey (.string n) .nil = match getF n L with | some f => .held f.p | none => .nil := by
  simp only [DataW.atKey, find_ent]
  cases getF n L <;> rfl
theorem ptrE_inv {v : Value} {D : DataW Nat} {ps : List MemPlace} (h : ptrE v = some (D, ps)) : (∃ p, v = .pointer (some ⟨p, 0, none⟩) ∧ D = .held p) ∨ (v = .pointer none ∧ D = .nil) := by
  unfold ptrE at h
  split at h
  · cases h; exact .inl ⟨_, rfl, rfl⟩
  · cases h; exact .inr ⟨rfl, rfl⟩
  · cases h
def ptrOf : Option FileM → Value
  | some f => .pointer (some ⟨f.p, 0, none⟩)
  | none => .pointer none
theorem zeroP (w : World) : (zeroValue 60).run Try.prog w = .ok (.pointer none) w := by kernel_rfl
theorem look_run {w : World} {m n : Nat} {L : List FileM} (h : w.ownsMap Try.prog 9 ptrE m n (.map (L.map entE))) (nm : ByteArray) (hs : nm.size ≤ maxLen) :
    (Instr.lookup 56 (.map (some m)) (.string nm) false).run Try.prog w = .ok (ptrOf (getF nm.data.toList L)) w := by
  obtain ⟨v, ps, hrun, hv⟩ := h.lookup (Maps.string_keyed Try.underlying9) Try.underlying56 (zeroP w) (zd := .nil) (zp := []) rfl (key := .string nm) (WideMaps.keyOf_string_mk Try.underlying9 hs)
  rw [atKey_ent] at hv
  rw [hrun]
  cases hg : getF nm.data.toList L with
  | none =>
    rw [hg] at hv
    rcases ptrE_inv hv with ⟨p, _, h2⟩ | ⟨rfl, _⟩
    · cases h2
    · rfl
  | some f =>
    rw [hg] at hv
    simp only at hv
    rcases ptrE_inv hv with ⟨p, rfl, h2⟩ | ⟨_, h2⟩
    · have hp : f.p = p := by injection h2
      rw [← hp]
      simp only [ptrOf]
    · cases h2
theorem wpList_put_d {w : World} {ops : Array Oper} {rest : List Oper} {o : Oper} {a : Act} {Q : Exit → Act → World → Prop} (hgd : o.guard = none) (x y z : Operand) (ho : o.op = .mapUpdate 56 x y z)
    (m n : Nat) (L : List FileM) (hx : a.eval x = .map (some m)) (hown : w.ownsMap Try.prog 9 ptrE m n (.map (L.map entE))) (hn : n ≤ 2000000) (nm : ByteArray) (hs : nm.size ≤ maxLen) (p : Nat) (hy : a.eval y = .string nm) (hz : a.eval z = .pointer (some ⟨p, 0, none⟩))
    (h : ∀ w', w'.ownsMap Try.prog 9 ptrE m (n + 1) ((DataW.map (L.map entE)).put (.string nm.data.toList) (.held p)) → w.grownBy w' (some m) → wpList Try.prog ops Q rest (a.put o.dst undef) w') : wpList Try.prog ops Q (o :: rest) a w :=
  wpList_mapUpdate_own w hgd x y z 56 ho 9 60 (Maps.string_keyed Try.underlying9) Try.underlying56 ptrE m n (.map (L.map entE)) hx hown (by unfold maxLen; omega) (.string nm) (.pointer (some ⟨p, 0, none⟩)) (.string nm.data.toList) hy hz (WideMaps.keyOf_string_mk Try.underlying9 hs) (.held p) [] rfl h
theorem wpList_del_d {w : World} {ops : Array Oper} {rest : List Oper} {o : Oper} {a : Act} {Q : Exit → Act → World → Prop} (hgd : o.guard = none) (x y : Operand) (ho : o.op = .call { callee := .builtin .delete, args := #[x, y], argTypes := #[56, 9] })
    (m n : Nat) (L : List FileM) (hx : a.eval x = .map (some m)) (hown : w.ownsMap Try.prog 9 ptrE m n (.map (L.map entE))) (nm : ByteArray) (hs : nm.size ≤ maxLen) (hy : a.eval y = .string nm)
    (h : ∀ w', w'.ownsMap Try.prog 9 ptrE m n (.map ((delF nm.data.toList L).map entE)) → w.grownBy w' (some m) → wpList Try.prog ops Q rest (a.put o.dst (.tuple #[])) w') : wpList Try.prog ops Q (o :: rest) a w :=
  wpList_delete_own w hgd x y 56 9 ho 60 (Maps.string_keyed Try.underlying9) Try.underlying56 ptrE m n (.map (L.map entE)) hx hown (.string nm) (.string nm.data.toList) hy (WideMaps.keyOf_string_mk Try.underlying9 hs) (fun w' h1 h2 => h w' (by rw [← del_ent]; exact h1) h2.grown)
theorem getF_some {n : List UInt8} {L : List FileM} {f : FileM} (h : getF n L = some f) : ∃ L1 L2, L = L1 ++ f :: L2 ∧ f.name = n ∧ ∀ g ∈ L1, g.name ≠ n := by
  obtain ⟨h1, L1, L2, h2, h3⟩ := List.find?_eq_some_iff_append.1 h
  exact ⟨L1, L2, h2, by simpa using h1, fun g hg e => by have := h3 g hg; simp [e] at this⟩
theorem getF_none {n : List UInt8} {L : List FileM} (h : getF n L = none) : ∀ g ∈ L, g.name ≠ n := fun g hg e => by
  have := List.find?_eq_none.1 h g hg
  simp [e] at this
theorem delF_none {n : List UInt8} {L : List FileM} (h : ∀ g ∈ L, g.name ≠ n) : delF n L = L := List.filter_eq_self.2 fun g hg => by simp [h g hg]
end Go.Proofs.Ytlbeehefandfhaa.Pr
end
section
namespace Go.Proofs.Ytlbeehefandfhaa.Pr
structure PF where
  name : List UInt8
  bs : List Int
  fast : Nat
structure PD where
  F : List PF
  size : Int
  calls : Int
  out : Bool
def nameOk (n : List UInt8) : Bool := n.all (fun c => (decide (97 ≤ c) && decide (c ≤ 122)) || (decide (48 ≤ c) && decide (c ≤ 57)) || c == 45) && (!n.isEmpty && decide (n.length ≤ 32))
def PD.goes (s : PD) : PD := { s with calls := if s.calls ≤ 0 then s.calls else s.calls - 1, out := s.out || decide (s.calls = 0) }
def total : List PF → Int
  | [] => 0
  | f :: r => (f.bs.length : Int) + total r
def insP (f : PF) : List PF → List PF
  | [] => [f]
  | g :: r => if bytesBefore f.name g.name then f :: g :: r else g :: insP f r
def delP (n : List UInt8) (L : List PF) : List PF := L.filter fun f => !(f.name == n)
def getP (n : List UInt8) (L : List PF) : Option PF := L.find? fun f => f.name == n
def updP (n : List UInt8) (g : PF → PF) : List PF → List PF
  | [] => []
  | f :: r => if f.name == n then g f :: r else f :: updP n g r
def pAppend (s : PD) (n : List UInt8) (l : List Int) : PD × Int :=
  if s.out then (s.goes, 200)
  else if !nameOk n then (s.goes, if s.goes.out then 200 else 1)
  else if (l.length : Int) > s.size - total s.F then (s.goes, 200)
  else ({ s.goes with F := match getP n s.F with | some _ => updP n (fun f => { f with bs := f.bs ++ l }) s.F | none => insP ⟨n, l, 0⟩ s.F }, if s.goes.out then 200 else 0)
def pSync (s : PD) (n : List UInt8) : PD × Int :=
  if s.goes.out then (s.goes, 200) else match getP n s.F with
    | none => (s.goes, 5)
    | some _ => ({ s.goes with F := updP n (fun f => { f with fast := f.bs.length }) s.F }, 0)
def pTruncate (s : PD) (n : List UInt8) (k : Int) : PD × Int :=
  if s.goes.out then (s.goes, 200) else match getP n s.F with
    | none => (s.goes, 5)
    | some f => if k < 0 ∨ k > f.bs.length then (s.goes, 1) else ({ s.goes with F := updP n (fun f => { f with bs := f.bs.take k.toNat, fast := min f.fast k.toNat }) s.F }, 0)
def pRename (s : PD) (a b : List UInt8) : PD × Int :=
  if s.goes.out then (s.goes, 200) else if !nameOk b then (s.goes, 1) else match getP a s.F with
    | none => (s.goes, 5)
    | some f => if a = b then (s.goes, 0) else ({ s.goes with F := insP { f with name := b } (delP a (delP b s.F)) }, 0)
def pRemove (s : PD) (n : List UInt8) : PD × Int :=
  if s.goes.out then (s.goes, 200) else match getP n s.F with
    | none => (s.goes, 5)
    | some _ => ({ s.goes with F := delP n s.F }, 0)
def pRead (s : PD) (n : List UInt8) : List Int × Bool := match getP n s.F with | some f => (f.bs, true) | none => ([], false)
def pFast (s : PD) (n : List UInt8) : Int := match getP n s.F with | some f => f.fast | none => 0
def pCut (s : PD) (n : Int) : PD := { s with calls := max n (-1) }
def keptN (keep : Int) (f : PF) : Nat := f.fast + (min (max keep 0) ((f.bs.length : Int) - f.fast)).toNat
def tear (keep : Int) (f : PF) : PF := if f.bs.length = f.fast then f else { f with bs := f.bs.take (keptN keep f) }
def isTorn (f : PF) : Bool := !decide (f.bs.length = f.fast)
def tailN (size : Int) (tail : List Int) (u : Int) : Nat := (min (tail.length : Int) (size - u)).toNat
def fillOne (size : Int) (tail : List Int) (keep : Int) (f : PF) (u : Int) : PF :=
  { tear keep f with bs := (tear keep f).bs ++ tail.take (tailN size tail u), fast := (tear keep f).bs.length + tailN size tail u }
def fillL (size : Int) (tail : List Int) (keep : Int) : List PF → Int → List PF
  | [], _ => []
  | f :: r, u => if isTorn f then fillOne size tail keep f u :: fillL size tail keep r (u + tailN size tail u) else f :: fillL size tail keep r u
def fillU (size : Int) (tail : List Int) : List PF → Int → Int
  | [], u => u
  | f :: r, u => if isTorn f then fillU size tail r (u + tailN size tail u) else fillU size tail r u
def pCrash (s : PD) (keep : Int) (tail : List Int) : PD :=
  { s with F := fillL s.size tail keep s.F (total (s.F.map (tear keep))), calls := -1, out := false }
structure WF (s : PD) : Prop where
  size0 : 0 ≤ s.size
  size1 : s.size ≤ 67108864
  room : total s.F ≤ s.size
  fast : ∀ f ∈ s.F, f.fast ≤ f.bs.length
  calls0 : -1 ≤ s.calls
  calls1 : s.calls ≤ 9223372036854775807
  names : ∀ f ∈ s.F, nameOk f.name = true
  sorted : s.F.Pairwise fun f g => bytesBefore f.name g.name = true
theorem total_nonneg : ∀ L, 0 ≤ total L
  | [] => Int.le_refl 0
  | f :: r => by have := total_nonneg r; unfold total; omega
theorem total_append : ∀ L M, total (L ++ M) = total L + total M
  | [], M => by simp [total]
  | f :: r, M => by simp only [List.cons_append, total, total_append r M]; omega
end Go.Proofs.Ytlbeehefandfhaa.Pr
end
section
namespace Go.Proofs.Ytlbeehefandfhaa.Pr
open Go.RowKit Go.Maps Go.Proofs.YtlbeehefandfhaaW.PrintWords Go.Proofs.YtlbeehefandfhaaW.PrintLast Go.Proofs.YtlbeehefandfhaaW.PrintMore
def absF (f : FileM) : PF := ⟨f.name, f.bs, f.fast⟩
def DiskM.abs (s : DiskM) : PD := ⟨s.L.map absF, s.size, s.calls, s.out⟩
structure Good (s : DiskM) : Prop where
  wf : WF s.abs
  used : s.used = total s.abs.F
theorem Good.u0 {s : DiskM} (h : Good s) : 0 ≤ s.used := by rw [h.used]; exact total_nonneg _
theorem Good.u1 {s : DiskM} (h : Good s) : s.used ≤ s.size := by rw [h.used]; exact h.wf.room
theorem Good.s1 {s : DiskM} (h : Good s) : s.size ≤ 67108864 := h.wf.size1
def DiskM.goes (s : DiskM) : DiskM := { s with calls := if s.calls ≤ 0 then s.calls else s.calls - 1, out := s.out || decide (s.calls = 0) }
theorem abs_goes (s : DiskM) : s.goes.abs = s.abs.goes := rfl
theorem WF.goes {s : PD} (h : WF s) : WF s.goes := by
  refine ⟨h.size0, h.size1, h.room, h.fast, ?_, ?_, h.names, h.sorted⟩
  · show -1 ≤ if s.calls ≤ 0 then s.calls else s.calls - 1
    have := h.calls0
    split <;> omega
  · show (if s.calls ≤ 0 then s.calls else s.calls - 1) ≤ _
    have := h.calls1
    split <;> omega
theorem Good.goes {s : DiskM} (h : Good s) : Good s.goes := ⟨by rw [abs_goes]; exact h.wf.goes, h.used⟩
section
variable {w : World} {B : Nat} {s : DiskM}
theorem DiskIs.c0 (h : DiskIs w B s) : w.cell? ⟨s.d, 0, none⟩ = some (.map (some s.m)) := by rw [cell_of_row w s.d 0 _ _ _ h.head]; rfl
theorem DiskIs.c1 (h : DiskIs w B s) : w.cell? ⟨s.d, 1, none⟩ = some (.int .i64 s.size) := by rw [cell_of_row w s.d 1 _ _ _ h.head]; rfl
theorem DiskIs.c2 (h : DiskIs w B s) : w.cell? ⟨s.d, 2, none⟩ = some (.int .i64 s.used) := by rw [cell_of_row w s.d 2 _ _ _ h.head]; rfl
theorem DiskIs.c3 (h : DiskIs w B s) : w.cell? ⟨s.d, 3, none⟩ = some (.int .i64 s.calls) := by rw [cell_of_row w s.d 3 _ _ _ h.head]; rfl
theorem DiskIs.c4 (h : DiskIs w B s) : w.cell? ⟨s.d, 4, none⟩ = some (.bool s.out) := by rw [cell_of_row w s.d 4 _ _ _ h.head]; rfl
theorem DiskIs.fz (h : DiskIs w B s) (j : Nat) : w.frozen? ⟨s.d, j, none⟩ = false := blk_frozen h.head _
theorem FileIs.c0 {f : FileM} (h : FileIs w B f) : w.cell? ⟨f.p, 0, none⟩ = some f.v := by rw [cell_of_row w f.p 0 _ _ _ h.head]; rfl
theorem FileIs.c1 {f : FileM} (h : FileIs w B f) : w.cell? ⟨f.p, 1, none⟩ = some (.int .i64 f.fast) := by rw [cell_of_row w f.p 1 _ _ _ h.head]; rfl
theorem FileIs.fz {f : FileM} (h : FileIs w B f) (j : Nat) : w.frozen? ⟨f.p, j, none⟩ = false := blk_frozen h.head _
end
theorem goes_calls (w : World) (B : Nat) (s : DiskM) (h : DiskIs w B s) (g : Good s) :
    Calls Try.prog 20 #[.pointer (some ⟨s.d, 0, none⟩)] w fun e w' => e = .returned (.bool s.goes.out) ∧ DiskIs w' B s.goes ∧ StepD w s w' s.goes := by
  have h0 := g.wf.calls0
  have h1 := g.wf.calls1
  change -1 ≤ s.calls at h0
  change s.calls ≤ 9223372036854775807 at h1
  have k3 := h.c3
  have k4 := h.c4
  have f3 := h.fz 3
  have f4 := h.fz 4
  have H := Aside0.mk h
  have G := Aside0.mk g
  clear h g
  by_cases c1 : s.calls < 0
  · have hd : decide (s.calls < 0) = true := decide_eq_true c1
    go_enter Try.func20, Try.ntmps20
    go_wp2
    go_ret
    have e : s.goes = s := by
      unfold DiskM.goes
      rw [if_pos (by omega), decide_eq_false (by omega), Bool.or_false]
    rw [e]
    exact ⟨rfl, H.out, StepD.refl _ _⟩
  · by_cases c2 : s.calls = 0
    · have hd : decide (s.calls < 0) = false := decide_eq_false c1
      have he : (s.calls == 0) = true := beq_iff_eq.2 c2
      have hE := Aside0.mk c2
      clear c2
      go_enter Try.func20, Try.ntmps20
      go_wp2
      go_ret
      have e : s.goes = { s with out := true } := by
        unfold DiskM.goes
        have hn : s.calls ≤ 0 := by have := hE.out; omega
        rw [if_pos hn, decide_eq_true hE.out, Bool.or_true]
      rw [e]
      obtain ⟨d1, d2⟩ := H.out.headed (w' := w.setCell ⟨s.d, 4, none⟩ (.bool true)) (s' := { s with out := true }) rfl rfl rfl (by rw [blk_set H.out.head 4 (.bool true)]; rfl) (fun k _ hk => Below.heap_setCell _ _ _ _ hk)
      exact ⟨rfl, d1, ⟨(Moved.refl _ _).setCell (.inl (.inl rfl)) _, d2⟩⟩
    · have hd : decide (s.calls < 0) = false := decide_eq_false c1
      have he : (s.calls == 0) = false := beq_eq_false_iff_ne.2 c2
      have hE := Aside0.mk c2
      clear c2
      go_enter Try.func20, Try.ntmps20
      go_wp2
      go_ret
      have := hE.out
      have e : s.goes = { s with calls := s.calls - 1 } := by
        unfold DiskM.goes
        have hn : ¬ s.calls ≤ 0 := by omega
        rw [if_neg hn, decide_eq_false hE.out, Bool.or_false]
      rw [e]
      obtain ⟨d1, d2⟩ := H.out.headed (w' := w.setCell ⟨s.d, 3, none⟩ (.int .i64 (s.calls - 1))) (s' := { s with calls := s.calls - 1 }) rfl rfl rfl (by rw [blk_set H.out.head 3 _]; rfl) (fun k _ hk => Below.heap_setCell _ _ _ _ hk)
      exact ⟨rfl, d1, ⟨(Moved.refl _ _).setCell (.inl (.inl rfl)) _, d2⟩⟩
end Go.Proofs.Ytlbeehefandfhaa.Pr
end
section
namespace Go.Proofs.Ytlbeehefandfhaa.Pr
open Go.RowKit Go.Maps Go.Proofs.YtlbeehefandfhaaW.PrintWords Go.Proofs.YtlbeehefandfhaaW.PrintLast Go.Proofs.YtlbeehefandfhaaW.PrintMore
def goodB (c : UInt8) : Bool := (decide (97 ≤ c) && decide (c ≤ 122)) || (decide (48 ≤ c) && decide (c ≤ 57)) || c == 45
theorem goodB_iff (c : UInt8) : goodB c = true ↔ (97 ≤ (c.toNat : Int) ∧ (c.toNat : Int) ≤ 122) ∨ (48 ≤ (c.toNat : Int) ∧ (c.toNat : Int) ≤ 57) ∨ (c.toNat : Int) = 45 := by
  unfold goodB
  have e : (c == 45) = true ↔ (c.toNat : Int) = 45 := by
    rw [beq_iff_eq, ← UInt8.toNat_inj]
    show c.toNat = 45 ↔ _
    omega
  simp only [Bool.or_eq_true, Bool.and_eq_true, decide_eq_true_eq, UInt8.le_iff_toNat_le, e]
  show (97 ≤ c.toNat ∧ c.toNat ≤ 122 ∨ 48 ≤ c.toNat ∧ c.toNat ≤ 57) ∨ _ ↔ _
  omega
theorem nameOk_eq (n : List UInt8) : nameOk n = (n.all goodB && (!n.isEmpty && decide (n.length ≤ 32))) := rfl
theorem all_take_succ (s : ByteArray) (k : Nat) (hk : k < s.size) : (s.data.toList.take (k + 1)).all goodB = ((s.data.toList.take k).all goodB && goodB s[k]) := by
  rw [List.take_succ_eq_append_getElem (by rw [data_length]; exact hk), List.all_append]
  simp
  rfl
theorem all_of_take {s : ByteArray} {k : Nat} (hk : k < s.size) (h : goodB s[k] = false) : s.data.toList.all goodB = false := by
  rw [List.all_eq_false]
  exact ⟨s[k], by rw [show s[k] = s.data.toList[k]'(by rw [data_length]; exact hk) from rfl]; exact List.getElem_mem _, by simp [h]⟩
theorem size0_iff (s : ByteArray) : s.data.toList = [] ↔ s.size = 0 := by
  rw [← List.length_eq_zero_iff, data_length]
theorem toList_loop (s : ByteArray) : ∀ (n i : Nat) (r : List UInt8), s.size - i = n → (ByteArray.toList.loop s i r).length = n + r.length := by
  intro n
  induction n with
  | zero => intro i r h; unfold ByteArray.toList.loop; rw [if_neg (by omega)]; simp
  | succ n ih => intro i r h; unfold ByteArray.toList.loop; rw [if_pos (by omega), ih _ _ (by omega)]; simp; omega
theorem toList_nil (s : ByteArray) : s.toList = [] ↔ s.size = 0 := by
  rw [← List.length_eq_zero_iff]
  unfold ByteArray.toList
  rw [toList_loop s s.size 0 [] (by omega)]
  simp
set_option maxHeartbeats 800000 in
theorem isName_calls (w : World) (s : ByteArray) (hs : s.size ≤ 9223372036854775807) :
    Calls Try.prog 21 #[.string s] w fun e w' => e = .returned (.bool (nameOk s.data.toList)) ∧ w = w' := by
  have hbad : s.data.toList.all goodB = false → nameOk s.data.toList = false := fun h => by rw [nameOk_eq, h]; rfl
  have HBAD := Aside0.mk hbad
  clear hbad
  go_enter Try.func21, Try.ntmps21
  go_wp2
  go_loop [7] (fun i => ∃ k : Nat, k ≤ s.size ∧ i = .int .i64 k ∧ Aside0 ((s.data.toList.take k).all goodB = true)) (fun i => s.size - (intOf i).toNat)
  case atStart => exact ⟨0, Nat.zero_le _, rfl, ⟨rfl⟩⟩
  case round =>
    obtain ⟨k, hk, rfl, hA⟩ := hrel
    by_cases hlt : k < s.size
    · have hi := goodB_iff s[k]
      have hts := all_take_succ s k hlt
      have hof := fun h => all_of_take (s := s) hlt h
      have HT := Aside0.mk hts
      have HO := Aside0.mk hof
      have HI := Aside0.mk hi
      clear hi hts hof
      rcases (by omega : (s[k].toNat : Int) < 45 ∨ (s[k].toNat : Int) = 45 ∨ (45 < (s[k].toNat : Int) ∧ (s[k].toNat : Int) < 48) ∨ (48 ≤ (s[k].toNat : Int) ∧ (s[k].toNat : Int) ≤ 57) ∨ (57 < (s[k].toNat : Int) ∧ (s[k].toNat : Int) < 97) ∨ (97 ≤ (s[k].toNat : Int) ∧ (s[k].toNat : Int) ≤ 122) ∨ 122 < (s[k].toNat : Int)) with hx | hx | hx | hx | hx | hx | hx
      all_goals
        have HX := Aside0.mk hx
        first
          | (have t1 : (s[k].toNat : Int) < 97 := by omega)
          | (have t1 : ¬ (s[k].toNat : Int) < 97 := by omega)
        first
          | (have t2 : 122 < (s[k].toNat : Int) := by omega)
          | (have t2 : ¬ 122 < (s[k].toNat : Int) := by omega)
        first
          | (have t3 : (s[k].toNat : Int) < 48 := by omega)
          | (have t3 : ¬ (s[k].toNat : Int) < 48 := by omega)
        first
          | (have t4 : 57 < (s[k].toNat : Int) := by omega)
          | (have t4 : ¬ 57 < (s[k].toNat : Int) := by omega)
        first
          | (have t6 : ((s[k].toNat : Int) != 45) = true := by rw [bne_iff_ne]; omega)
          | (have t6 : ((s[k].toNat : Int) != 45) = false := by rw [bne_eq_false_iff_eq]; omega)
        clear hx
        go_wp2
        first
          | (go_ret; exact ⟨by rw [HBAD.out (HO.out (by cases hg : goodB s[k] with | false => rfl | true => exact absurd (HI.out.1 hg) (by have := HX.out; omega)))]; rfl, rfl⟩)
          | (go_round
             case rel => exact ⟨k + 1, by omega, by go_num, ⟨by rw [HT.out, hA.out, HI.out.2 (by have := HX.out; omega)]; rfl⟩⟩
             case measure => simp [intOf]; omega)
    · obtain rfl : k = s.size := by omega
      have hall : s.data.toList.all goodB = true := by
        have := hA.out
        rwa [List.take_of_length_le (by rw [data_length]; omega)] at this
      have HALL := Aside0.mk hall
      have hz := size0_iff s
      have hz2 := toList_nil s
      have hl := data_length s
      have HL := Aside0.mk hl
      by_cases h0 : s.size = 0
      · have he : s.toList = [] := hz2.2 h0
        have hE : s.toList.isEmpty = true := by rw [he]; rfl
        have HE := Aside0.mk (hz.2 h0)
        clear hall hz h0 hz2 hl
        go_wp2
        go_ret
        exact ⟨by rw [nameOk_eq, HE.out]; rfl, rfl⟩
      · have he : ¬ s.toList = [] := fun e => h0 (hz2.1 e)
        have hE : s.toList.isEmpty = false := by rw [← Bool.not_eq_true, List.isEmpty_iff]; exact he
        have HE := Aside0.mk (show s.data.toList.isEmpty = false by rw [← Bool.not_eq_true, List.isEmpty_iff]; exact fun e => h0 (hz.1 e))
        clear hall hz hz2 hl
        by_cases h32 : s.size ≤ 32
        · have h32' : (s.size : Int) ≤ 32 := by omega
          go_wp2
          go_ret
          exact ⟨by rw [nameOk_eq, HALL.out, HL.out, decide_eq_true h32, HE.out]; rfl, rfl⟩
        · have h32' : ¬ (s.size : Int) ≤ 32 := by omega
          go_wp2
          go_ret
          exact ⟨by rw [nameOk_eq, HALL.out, HL.out, decide_eq_false h32, HE.out]; rfl, rfl⟩
end Go.Proofs.Ytlbeehefandfhaa.Pr
end
section
namespace Go.Proofs.Ytlbeehefandfhaa.Pr
open Go.RowKit Go.Maps Go.Proofs.YtlbeehefandfhaaW.PrintWords Go.Proofs.YtlbeehefandfhaaW.PrintLast Go.Proofs.YtlbeehefandfhaaW.PrintMore
theorem getP_abs (n : List UInt8) : ∀ L : List FileM, getP n (L.map absF) = (getF n L).map absF
  | [] => rfl
  | f :: r => by
    unfold getP getF
    rw [List.map_cons, List.find?_cons, List.find?_cons]
    show (match (f.name == n) with | true => _ | false => _) = _
    cases (f.name == n) with
    | true => rfl
    | false => exact getP_abs n r
def atE (s : DiskM) (n : List UInt8) : Int := if s.goes.out then 200 else if (getF n s.L).isSome then 0 else 5
def atP (s : DiskM) (n : List UInt8) : Value := if s.goes.out then .pointer none else ptrOf (getF n s.L)
theorem look_at {w : World} {B : Nat} {s : DiskM} (h : DiskIs w B s) (nm : ByteArray) (hs : nm.size ≤ maxLen) :
    (Instr.lookup 56 (.map (some s.m)) (.string nm) false).run Try.prog w = .ok (ptrOf (getF nm.data.toList s.L)) w := look_run h.map nm hs
set_option maxHeartbeats 400000 in
theorem at_calls (w : World) (B : Nat) (s : DiskM) (h : DiskIs w B s) (g : Good s) (nm : ByteArray) (hs : nm.size ≤ maxLen) :
    Calls Try.prog 22 #[.pointer (some ⟨s.d, 0, none⟩), .string nm] w fun e w' => e = .returned (.tuple #[atP s nm.data.toList, .int .i64 (atE s nm.data.toList)]) ∧ DiskIs w' B s.goes ∧ StepD w s w' s.goes := by
  have hl := look_at h nm hs
  have k0 := h.c0
  have H := Aside0.mk h
  have G := Aside0.mk g
  clear h g
  cases hg : getF nm.data.toList s.L with
  | none =>
    rw [hg] at hl
    simp only [ptrOf] at hl
    have HG := Aside0.mk hg
    clear hg
    cases ho : s.goes.out with
    | true =>
      have HO := Aside0.mk ho
      clear ho
      go_enter Try.func22, Try.ntmps22
      go_wp2_with (go_at_call 20; refine (goes_calls w B s H.out G.out).mono ?_; rintro e w1 ⟨he, hD, hS⟩; rw [HO.out] at he; subst he; have HD := Aside0.mk hD; have HS := Aside0.mk hS; clear hD hS)
      go_ret2
      exact ⟨by unfold atP atE; rw [HO.out]; rfl, HD.out, HS.out⟩
    | false =>
      have HO := Aside0.mk ho
      clear ho
      go_enter Try.func22, Try.ntmps22
      go_wp2_with (go_at_call 20; refine (goes_calls w B s H.out G.out).mono ?_; rintro e w1 ⟨he, hD, hS⟩; rw [HO.out] at he; subst he; have HD := Aside0.mk hD; have HS := Aside0.mk hS; clear hD hS)
      go_ret2
      exact ⟨by unfold atP atE; rw [HO.out, HG.out]; rfl, HD.out, HS.out⟩
  | some f =>
    rw [hg] at hl
    simp only [ptrOf] at hl
    have HG := Aside0.mk hg
    clear hg
    cases ho : s.goes.out with
    | true =>
      have HO := Aside0.mk ho
      clear ho
      go_enter Try.func22, Try.ntmps22
      go_wp2_with (go_at_call 20; refine (goes_calls w B s H.out G.out).mono ?_; rintro e w1 ⟨he, hD, hS⟩; rw [HO.out] at he; subst he; have HD := Aside0.mk hD; have HS := Aside0.mk hS; clear hD hS)
      go_ret2
      exact ⟨by unfold atP atE; rw [HO.out]; rfl, HD.out, HS.out⟩
    | false =>
      have HO := Aside0.mk ho
      clear ho
      go_enter Try.func22, Try.ntmps22
      go_wp2_with (go_at_call 20; refine (goes_calls w B s H.out G.out).mono ?_; rintro e w1 ⟨he, hD, hS⟩; rw [HO.out] at he; subst he; have HD := Aside0.mk hD; have HS := Aside0.mk hS; clear hD hS)
      go_ret2
      exact ⟨by unfold atP atE; rw [HO.out, HG.out]; rfl, HD.out, HS.out⟩
theorem used_calls (w : World) (B : Nat) (s : DiskM) (h : DiskIs w B s) :
    Calls Try.prog 15 #[.pointer (some ⟨s.d, 0, none⟩)] w fun e w' => e = .returned (.int .i64 s.used) ∧ w = w' := by
  have k2 := h.c2
  clear h
  go_enter Try.func15, Try.ntmps15
  go_wp2
  go_ret
  exact ⟨rfl, rfl⟩
theorem WF.cut {s : PD} (h : WF s) (n : Int) (hn : n ≤ 9223372036854775807) : WF (pCut s n) := by
  refine ⟨h.size0, h.size1, h.room, h.fast, ?_, ?_, h.names, h.sorted⟩
  · show -1 ≤ max n (-1); omega
  · show max n (-1) ≤ _; omega
theorem cut_calls (w : World) (B : Nat) (s : DiskM) (h : DiskIs w B s) (g : Good s) (n : Int) (h1 : -9223372036854775808 ≤ n) (h2 : n ≤ 9223372036854775807) :
    Calls Try.prog 16 #[.pointer (some ⟨s.d, 0, none⟩), .int .i64 n] w fun e w' => e = .returned (.tuple #[]) ∧ ∃ s', DiskIs w' B s' ∧ StepD w s w' s' ∧ Good s' ∧ s'.abs = pCut s.abs n ∧ s'.d = s.d := by
  have k3 := h.c3
  have f3 := h.fz 3
  have H := Aside0.mk h
  have G := Aside0.mk g
  clear h g
  by_cases hn : n < -1
  · have hd : decide (n < -1) = true := decide_eq_true hn
    go_enter Try.func16, Try.ntmps16
    go_wp2
    go_end0
    obtain ⟨d1, d2⟩ := H.out.headed (w' := w.setCell ⟨s.d, 3, none⟩ (.int .i64 (-1))) (s' := { s with calls := -1 }) rfl rfl rfl (by rw [blk_set H.out.head 3 _]; rfl) (fun k _ hk => Below.heap_setCell _ _ _ _ hk)
    have e : ({ s with calls := -1 } : DiskM).abs = pCut s.abs n := by unfold pCut; rw [show max n (-1) = -1 by omega]; rfl
    exact ⟨rfl, _, d1, ⟨(Moved.refl _ _).setCell (.inl (.inl rfl)) _, d2⟩, ⟨by rw [e]; exact G.out.wf.cut n h2, G.out.used⟩, e, rfl⟩
  · have hd : decide (n < -1) = false := decide_eq_false hn
    go_enter Try.func16, Try.ntmps16
    go_wp2
    go_end0
    obtain ⟨d1, d2⟩ := H.out.headed (w' := w.setCell ⟨s.d, 3, none⟩ (.int .i64 n)) (s' := { s with calls := n }) rfl rfl rfl (by rw [blk_set H.out.head 3 _]; rfl) (fun k _ hk => Below.heap_setCell _ _ _ _ hk)
    have e : ({ s with calls := n } : DiskM).abs = pCut s.abs n := by unfold pCut; rw [show max n (-1) = n by omega]; rfl
    exact ⟨rfl, _, d1, ⟨(Moved.refl _ _).setCell (.inl (.inl rfl)) _, d2⟩, ⟨by rw [e]; exact G.out.wf.cut n h2, G.out.used⟩, e, rfl⟩
theorem fast_calls (w : World) (B : Nat) (s : DiskM) (h : DiskIs w B s) (nm : ByteArray) (hs : nm.size ≤ maxLen) :
    Calls Try.prog 13 #[.pointer (some ⟨s.d, 0, none⟩), .string nm] w fun e w' => e = .returned (.int .i64 (pFast s.abs nm.data.toList)) ∧ w = w' := by
  have hl := look_at h nm hs
  have k0 := h.c0
  have hp : pFast s.abs nm.data.toList = match getF nm.data.toList s.L with | some f => (f.fast : Int) | none => 0 := by
    unfold pFast
    rw [show s.abs.F = s.L.map absF from rfl, getP_abs]
    cases getF nm.data.toList s.L <;> rfl
  cases hg : getF nm.data.toList s.L with
  | none =>
    rw [hg] at hl hp
    simp only [ptrOf] at hl
    have HP := Aside0.mk hp
    clear hg hp h
    go_enter Try.func13, Try.ntmps13
    go_wp2
    go_ret
    exact ⟨by rw [HP.out]; rfl, rfl⟩
  | some f =>
    rw [hg] at hl hp
    simp only [ptrOf] at hl
    have hf := (h.file f (List.mem_of_find?_eq_some hg)).c1
    have HP := Aside0.mk hp
    clear hg hp h
    go_enter Try.func13, Try.ntmps13
    go_wp2
    go_ret
    exact ⟨by rw [HP.out]; rfl, rfl⟩
end Go.Proofs.Ytlbeehefandfhaa.Pr
end
section
namespace Go.Proofs.Ytlbeehefandfhaa.Pr
theorem total_at (A C : List PF) (f : PF) : total (A ++ f :: C) = total A + f.bs.length + total C := by
  rw [total_append]
  simp only [total]
  omega
theorem updP_at (n : List UInt8) (g : PF → PF) (f : PF) (C : List PF) (hf : f.name = n) : ∀ A : List PF, (∀ x ∈ A, x.name ≠ n) → updP n g (A ++ f :: C) = A ++ g f :: C
  | [], _ => by simp [updP, hf]
  | a :: r, h => by
    have ha : (a.name == n) = false := by
      rw [beq_eq_false_iff_ne]
      exact h a (by simp)
    rw [List.cons_append, updP, ha]
    simp only [Bool.false_eq_true, if_false]
    rw [updP_at n g f C hf r (fun x hx => h x (List.mem_cons_of_mem _ hx))]
    rfl
theorem WF.at {s : PD} (h : WF s) {A C : List PF} {f f' : PF} (hF : s.F = A ++ f :: C) (hn : f'.name = f.name) (hfast : f'.fast ≤ f'.bs.length) (hroom : total s.F - f.bs.length + f'.bs.length ≤ s.size) : WF { s with F := A ++ f' :: C } := by
  have hs := h.sorted
  have hfa := h.fast
  have hna := h.names
  rw [hF] at hs hfa hna
  refine ⟨h.size0, h.size1, ?_, fun x hx => ?_, h.calls0, h.calls1, fun x hx => ?_, ?_⟩
  · rw [hF, total_at] at hroom
    show total (A ++ f' :: C) ≤ s.size
    rw [total_at]
    omega
  · rcases List.mem_append.1 hx with hx | hx
    · exact hfa x (by simp [hx])
    · rcases List.mem_cons.1 hx with rfl | hx
      · exact hfast
      · exact hfa x (by simp [hx])
  · rcases List.mem_append.1 hx with hx | hx
    · exact hna x (by simp [hx])
    · rcases List.mem_cons.1 hx with rfl | hx
      · rw [hn]; exact hna f (by simp)
      · exact hna x (by simp [hx])
  · show (A ++ f' :: C).Pairwise _
    obtain ⟨p1, p2, p3⟩ := List.pairwise_append.1 hs
    obtain ⟨p4, p5⟩ := List.pairwise_cons.1 p2
    refine List.pairwise_append.2 ⟨p1, List.pairwise_cons.2 ⟨fun x hx => by rw [hn]; exact p4 x hx, p5⟩, fun a ha b hb => ?_⟩
    rcases List.mem_cons.1 hb with rfl | hb
    · rw [hn]; exact p3 a ha f (by simp)
    · exact p3 a ha b (List.mem_cons_of_mem _ hb)
theorem bytesBefore_irrefl : ∀ a : List UInt8, bytesBefore a a = false
  | [] => rfl
  | x :: r => by
    have hx : ¬ x < x := UInt8.lt_irrefl x
    simp [bytesBefore, hx, bytesBefore_irrefl r]
theorem bytesBefore_trans : ∀ a b c : List UInt8, bytesBefore a b = true → bytesBefore b c = true → bytesBefore a c = true
  | _, [], [], _, h => by simp [bytesBefore] at h
  | [], [], _ :: _, h, _ => by simp [bytesBefore] at h
  | _ :: _, [], _ :: _, h, _ => by simp [bytesBefore] at h
  | _, _ :: _, [], _, h => by simp [bytesBefore] at h
  | [], _ :: _, _ :: _, _, _ => rfl
  | x :: a, y :: b, z :: c, h, k => by
    simp only [bytesBefore, Bool.or_eq_true, Bool.and_eq_true, decide_eq_true_eq, beq_iff_eq] at h k ⊢
    rcases h with h | ⟨rfl, h⟩
    · rcases k with k | ⟨rfl, k⟩
      · exact .inl (UInt8.lt_trans h k)
      · exact .inl h
    · rcases k with k | ⟨rfl, k⟩
      · exact .inl k
      · exact .inr ⟨rfl, bytesBefore_trans a b c h k⟩
theorem bytesBefore_total : ∀ a b : List UInt8, a ≠ b → bytesBefore a b = false → bytesBefore b a = true
  | [], [], h, _ => absurd rfl h
  | [], _ :: _, _, h => by simp [bytesBefore] at h
  | _ :: _, [], _, _ => rfl
  | x :: a, y :: b, hne, h => by
    simp only [bytesBefore, Bool.or_eq_false_iff, Bool.and_eq_false_iff, decide_eq_false_iff_not, beq_eq_false_iff_ne] at h
    simp only [bytesBefore, Bool.or_eq_true, Bool.and_eq_true, decide_eq_true_eq, beq_iff_eq]
    obtain ⟨h1, h2⟩ := h
    by_cases hxy : x = y
    · subst hxy
      refine .inr ⟨rfl, bytesBefore_total a b (fun e => hne (by rw [e])) ?_⟩
      rcases h2 with h2 | h2
      · exact absurd rfl h2
      · exact h2
    · left
      rw [UInt8.lt_iff_toNat_lt] at h1 ⊢
      have : x.toNat ≠ y.toNat := fun e => hxy (UInt8.toNat_inj.1 e)
      omega
theorem insP_perm (f : PF) : ∀ L, (insP f L).Perm (f :: L)
  | [] => List.Perm.refl _
  | g :: r => by
    unfold insP
    split
    · exact List.Perm.refl _
    · exact ((insP_perm f r).cons g).trans (List.Perm.swap f g r)
theorem total_perm {L M : List PF} (h : L.Perm M) : total L = total M := by
  induction h with
  | nil => rfl
  | cons x _ ih => simp only [total, ih]
  | swap x y l => simp only [total]; omega
  | trans _ _ h1 h2 => exact h1.trans h2
theorem insP_sorted (f : PF) : ∀ L : List PF, L.Pairwise (fun f g => bytesBefore f.name g.name = true) → (∀ g ∈ L, g.name ≠ f.name) → (insP f L).Pairwise fun f g => bytesBefore f.name g.name = true
  | [], _, _ => by simp [insP]
  | g :: r, h, hn => by
    obtain ⟨h1, h2⟩ := List.pairwise_cons.1 h
    unfold insP
    split
    · rename_i hb
      refine List.pairwise_cons.2 ⟨fun x hx => ?_, h⟩
      rcases List.mem_cons.1 hx with rfl | hx
      · exact hb
      · exact bytesBefore_trans _ _ _ hb (h1 x hx)
    · rename_i hb
      refine List.pairwise_cons.2 ⟨fun x hx => ?_, insP_sorted f r h2 (fun x hx => hn x (List.mem_cons_of_mem _ hx))⟩
      rcases List.mem_cons.1 ((insP_perm f r).mem_iff.1 hx) with rfl | hx
      · exact bytesBefore_total _ _ (hn g (by simp)).symm (by simpa using hb)
      · exact h1 x hx
theorem WF.ins {s : PD} (h : WF s) (f : PF) (hn : ∀ g ∈ s.F, g.name ≠ f.name) (hok : nameOk f.name = true) (hfast : f.fast ≤ f.bs.length) (hroom : total s.F + f.bs.length ≤ s.size) : WF { s with F := insP f s.F } := by
  have hp := insP_perm f s.F
  refine ⟨h.size0, h.size1, ?_, fun x hx => ?_, h.calls0, h.calls1, fun x hx => ?_, insP_sorted f s.F h.sorted hn⟩
  · show total (insP f s.F) ≤ s.size
    rw [total_perm hp]
    simp only [total]
    omega
  · rcases List.mem_cons.1 (hp.mem_iff.1 hx) with rfl | hx
    · exact hfast
    · exact h.fast x hx
  · rcases List.mem_cons.1 (hp.mem_iff.1 hx) with rfl | hx
    · exact hok
    · exact h.names x hx
theorem total_del (n : List UInt8) : ∀ L : List PF, total (delP n L) ≤ total L
  | [] => Int.le_refl _
  | f :: r => by
    have := total_del n r
    unfold delP at this ⊢
    rw [List.filter_cons]
    split
    · simp only [total]; omega
    · simp only [total]; omega
theorem WF.del {s : PD} (h : WF s) (n : List UInt8) : WF { s with F := delP n s.F } :=
  ⟨h.size0, h.size1, Int.le_trans (total_del n s.F) h.room, fun x hx => h.fast x (List.mem_filter.1 hx).1, h.calls0, h.calls1, fun x hx => h.names x (List.mem_filter.1 hx).1, h.sorted.sublist List.filter_sublist⟩
theorem delP_at (n : List UInt8) (A C : List PF) (f : PF) (hs : (A ++ f :: C).Pairwise fun f g => bytesBefore f.name g.name = true) (hf : f.name = n) : delP n (A ++ f :: C) = A ++ C := by
  obtain ⟨p1, p2, p3⟩ := List.pairwise_append.1 hs
  obtain ⟨p4, p5⟩ := List.pairwise_cons.1 p2
  have ne : ∀ a b : PF, bytesBefore a.name b.name = true → a.name ≠ b.name := fun a b h e => by rw [e, bytesBefore_irrefl] at h; cases h
  unfold delP
  rw [List.filter_append, List.filter_cons_of_neg (by simp [hf])]
  rw [List.filter_eq_self.2 fun a ha => by have := ne a f (p3 a ha f (by simp)); simp [← hf, this]]
  rw [List.filter_eq_self.2 fun a ha => by have := ne f a (p4 a ha); simp [← hf]; exact fun e => this e.symm]
theorem total_del_at (n : List UInt8) (A C : List PF) (f : PF) (hs : (A ++ f :: C).Pairwise fun f g => bytesBefore f.name g.name = true) (hf : f.name = n) : total (delP n (A ++ f :: C)) = total (A ++ f :: C) - f.bs.length := by
  rw [delP_at n A C f hs hf, total_at, total_append]
  omega
end Go.Proofs.Ytlbeehefandfhaa.Pr
end
section
namespace Go.Proofs.Ytlbeehefandfhaa.Pr
open Go.RowKit Go.Maps Go.Proofs.YtlbeehefandfhaaW.PrintWords Go.Proofs.YtlbeehefandfhaaW.PrintLast Go.Proofs.YtlbeehefandfhaaW.PrintMore
structure OpDone (w : World) (B : Nat) (s : DiskM) (p : PD) (w' : World) (s' : DiskM) : Prop where
  disk : DiskIs w' B s'
  step : StepD w s w' s'
  good : Good s'
  abs : s'.abs = p
  d : s'.d = s.d
  m : s'.m = s.m
theorem OpDone.goes {w w' : World} {B : Nat} {s : DiskM} {p : PD} (h1 : DiskIs w' B s.goes) (h2 : StepD w s w' s.goes) (g : Good s) (hp : p = s.abs.goes) : OpDone w B s p w' s.goes := ⟨h1, h2, g.goes, by rw [abs_goes, hp], rfl, rfl⟩
def OpPost (w : World) (B : Nat) (s : DiskM) (r : PD × Int) (e : Ending) (w' : World) : Prop := e = .returned (.int .i64 r.2) ∧ ∃ s', OpDone w B s r.1 w' s'
theorem OpDone.upd {w w1 w' : World} {B : Nat} {s t s' : DiskM} {p : PD} (hs : StepD w s w1 t) (hd : t.d = s.d) (hm : t.m = s.m) (h : DiskIs w1 B t) (g : Good t) {L1 L2 : List FileM} {f f' : FileM} (hL : t.L = L1 ++ f :: L2) (e' : s' = { t with L := L1 ++ f' :: L2, used := t.used - f.bs.length + f'.bs.length })
    (hn : f'.name = f.name) (hp : f'.p = f.p) (hfast : f'.fast ≤ f'.bs.length) (hroom : t.used - f.bs.length + f'.bs.length ≤ t.size)
    (hhead : w'.heap[t.d]? = some (.cells (cellsD s') 58 (0, 0))) (hfile : FileIs w' B f') (hat : ∀ k, f'.v.ownBlock = some k → f.v.ownBlock = some k ∨ w1.heap.size ≤ k)
    (hmv : ∀ F, (∀ k, k = t.d ∨ k = f.p ∨ f.v.ownBlock = some k → F k) → Moved F w1 w') (hab : s'.abs = p) : OpDone w B s p w' s' := by
  subst e'
  have hM := hmv (fun k => k = t.d ∨ k = f.p ∨ f.v.ownBlock = some k) (fun k h => h)
  obtain ⟨h1, h2⟩ := h.upd (s' := { t with L := L1 ++ f' :: L2, used := t.used - f.bs.length + f'.bs.length }) hL rfl rfl rfl hn hp hhead hfile hat (fun k hk h1 h2 h3 => hM.block k (h.foot hk).2 (fun hf => by rcases hf with h | h | h; exact h1 h; exact h2 h; exact h3 h))
  have hfm : f ∈ t.L := by rw [hL]; simp
  have hM2 : Moved (Foot20 t) w1 w' := hmv _ (fun k hk => by
    rcases hk with rfl | rfl | hk
    · exact .inl rfl
    · exact .inr (.inr ⟨f, hfm, .inl rfl⟩)
    · exact .inr (.inr ⟨f, hfm, .inr hk⟩))
  have hF : t.abs.F = L1.map absF ++ absF f :: L2.map absF := by show t.L.map absF = _; rw [hL]; simp
  have hu := g.used
  have hW := g.wf.at (f' := absF f') hF hn hfast (by
    show total t.abs.F - (f.bs.length : Int) + f'.bs.length ≤ t.size
    rw [← hu]; exact hroom)
  have hT : total (L1.map absF ++ absF f' :: L2.map absF) = t.used - f.bs.length + f'.bs.length := by
    rw [hu, hF, total_at, total_at]
    show total _ + (f'.bs.length : Int) + _ = _ + (f.bs.length : Int) + _ - _ + _
    omega
  have hA : ({ t with L := L1 ++ f' :: L2, used := t.used - f.bs.length + f'.bs.length } : DiskM).abs = { t.abs with F := L1.map absF ++ absF f' :: L2.map absF } := by
    unfold DiskM.abs
    simp
  refine ⟨h1, hs.trans ⟨hM2, h2⟩, ⟨by rw [hA]; exact hW, by rw [hA]; exact hT.symm⟩, hab, hd, hm⟩
theorem abs_at {t : DiskM} {L1 L2 : List FileM} {f : FileM} {n : List UInt8} (hL : t.L = L1 ++ f :: L2) (hf : f.name = n) (h1 : ∀ g ∈ L1, g.name ≠ n) (g : PF → PF) : updP n g t.abs.F = L1.map absF ++ g (absF f) :: L2.map absF := by
  have hF : t.abs.F = L1.map absF ++ absF f :: L2.map absF := by show t.L.map absF = _; rw [hL]; simp
  rw [hF]
  exact updP_at n g (absF f) _ hf _ (fun x hx => by obtain ⟨y, hy, rfl⟩ := List.mem_map.1 hx; exact h1 y hy)
theorem getP_at {t : DiskM} {f : FileM} {n : List UInt8} (hg : getF n t.L = some f) : getP n t.abs.F = some (absF f) := by
  show getP n (t.L.map absF) = _
  rw [getP_abs, hg]; rfl
theorem getP_none {t : DiskM} {n : List UInt8} (hg : getF n t.L = none) : getP n t.abs.F = none := by
  show getP n (t.L.map absF) = _
  rw [getP_abs, hg]; rfl
theorem bs_le {s : DiskM} (g : Good s) {f : FileM} (hf : f ∈ s.L) : (f.bs.length : Int) ≤ s.used ∧ f.fast ≤ f.bs.length := by
  obtain ⟨A, C, hL⟩ := List.append_of_mem hf
  have hF : s.abs.F = A.map absF ++ absF f :: C.map absF := by show s.L.map absF = _; rw [hL]; simp
  refine ⟨?_, g.wf.fast (absF f) (by rw [hF]; simp)⟩
  rw [g.used, hF, total_at]
  have h1 := total_nonneg (A.map absF)
  have h2 := total_nonneg (C.map absF)
  show (f.bs.length : Int) ≤ _ + (f.bs.length : Int) + _
  omega
theorem sync_calls (w : World) (B : Nat) (s : DiskM) (h : DiskIs w B s) (g : Good s) (nm : ByteArray) (hs : nm.size ≤ maxLen) :
    Calls Try.prog 10 #[.pointer (some ⟨s.d, 0, none⟩), .string nm] w (OpPost w B s (pSync s.abs nm.data.toList)) := by
  have hat := at_calls w B s h g nm hs
  have HAT := Aside0.mk hat
  have G := Aside0.mk g
  clear hat h g
  cases ho : s.goes.out with
  | true =>
    have hp : pSync s.abs nm.data.toList = (s.abs.goes, 200) := by unfold pSync; rw [← abs_goes, show s.goes.abs.out = true from ho]; rfl
    have hP : atP s nm.data.toList = .pointer none := by unfold atP; rw [ho]; rfl
    have hE : atE s nm.data.toList = 200 := by unfold atE; rw [ho]; rfl
    have HP := Aside0.mk hp
    have HPP := Aside0.mk hP
    have HE := Aside0.mk hE
    clear ho hp hP hE
    go_enter Try.func10, Try.ntmps10
    go_wp2_with (go_at_call 22; refine HAT.out.mono ?_; rintro e w1 ⟨he, hD, hS⟩; rw [HPP.out, HE.out] at he; subst he; have HD := Aside0.mk hD; have HS := Aside0.mk hS; clear hD hS)
    go_ret
    rw [HP.out]
    exact ⟨rfl, _, OpDone.goes HD.out HS.out G.out rfl⟩
  | false =>
    cases hg : getF nm.data.toList s.L with
    | none =>
      have hp : pSync s.abs nm.data.toList = (s.abs.goes, 5) := by unfold pSync; rw [← abs_goes, show s.goes.abs.out = false from ho, getP_none hg]; rfl
      have hP : atP s nm.data.toList = .pointer none := by unfold atP; rw [ho, hg]; rfl
      have hE : atE s nm.data.toList = 5 := by unfold atE; rw [ho, hg]; rfl
      have HP := Aside0.mk hp
      have HPP := Aside0.mk hP
      have HE := Aside0.mk hE
      clear ho hp hP hE hg
      go_enter Try.func10, Try.ntmps10
      go_wp2_with (go_at_call 22; refine HAT.out.mono ?_; rintro e w1 ⟨he, hD, hS⟩; rw [HPP.out, HE.out] at he; subst he; have HD := Aside0.mk hD; have HS := Aside0.mk hS; clear hD hS)
      go_ret
      rw [HP.out]
      exact ⟨rfl, _, OpDone.goes HD.out HS.out G.out rfl⟩
    | some f =>
      have hP : atP s nm.data.toList = .pointer (some ⟨f.p, 0, none⟩) := by unfold atP; rw [ho, hg]; rfl
      have hE : atE s nm.data.toList = 0 := by unfold atE; rw [ho, hg]; rfl
      obtain ⟨L1, L2, hL, hfn, hL1⟩ := getF_some hg
      have hp : pSync s.abs nm.data.toList = ({ s.abs.goes with F := L1.map absF ++ { absF f with fast := f.bs.length } :: L2.map absF }, 0) := by
        unfold pSync
        rw [← abs_goes, show s.goes.abs.out = false from ho, getP_at hg, abs_at hL hfn hL1]; rfl
      have HP := Aside0.mk hp
      have HPP := Aside0.mk hP
      have HE := Aside0.mk hE
      have HL := Aside0.mk hL
      have HM := Aside0.mk (show f ∈ s.goes.L from List.mem_of_find?_eq_some hg)
      have HN := Aside0.mk hfn
      clear ho hp hP hE hg hL hL1 hfn
      obtain ⟨b0, b1⟩ := bs_le G.out.goes HM.out
      have b2 := G.out.goes.u1
      have b3 := G.out.goes.s1
      have BB := Aside0.mk (And.intro b0 (And.intro b2 b3))
      clear b0 b1 b2 b3
      go_enter Try.func10, Try.ntmps10
      go_wp2_with (go_at_call 22; refine HAT.out.mono ?_; rintro e w1 ⟨he, hD, hS⟩; rw [HPP.out, HE.out] at he; subst he; have HD := Aside0.mk hD; have HS := Aside0.mk hS; clear hD hS; have hF := HD.out.file f HM.out; obtain ⟨A, c, hv, hc, hcm⟩ := hF.row.slice; have hf0 := hF.c0; rw [hv] at hf0; have hf1 := hF.c1; have hz1 := hF.fz 1; have HV := Aside0.mk hv; have HF := Aside0.mk hF; clear hv hF)
      go_ret
      rw [HP.out]
      refine ⟨rfl, _, OpDone.upd (f' := { f with fast := f.bs.length }) HS.out rfl rfl HD.out G.out.goes HL.out rfl rfl rfl (Nat.le_refl _) (by have := G.out.goes.u1; show s.goes.used - (f.bs.length : Int) + (f.bs.length : Int) ≤ s.goes.size; omega) ?_ ⟨HF.out.pB, ?_, HF.out.row.move (fun k hk => Below.heap_setCell _ _ _ _ (HD.out.fr HM.out HM.out hk))⟩ (fun k hk => .inl hk) (fun F hF => (Moved.refl _ _).setCell (.inl (hF _ (.inr (.inl rfl)))) _) ?_⟩
      · rw [Below.heap_setCell _ _ _ _ (fun e => HD.out.df HM.out e.symm), HD.out.head]
        congr 2
        unfold cellsD
        simp
      · rw [blk_set HF.out.head 1 _]
        rfl
      · show (⟨(L1 ++ _ :: L2).map absF, _, _, _⟩ : PD) = _
        rw [List.map_append, List.map_cons]
        rfl
end Go.Proofs.Ytlbeehefandfhaa.Pr
end
section
namespace Go.Proofs.Ytlbeehefandfhaa.Pr
open Go.RowKit Go.Maps Go.Proofs.YtlbeehefandfhaaW.PrintWords Go.Proofs.YtlbeehefandfhaaW.PrintLast Go.Proofs.YtlbeehefandfhaaW.PrintMore
theorem src_of_D {w : World} {B : Nat} {A : Option Addr} {n c : Nat} {bs : List Int} (h : DRow w B (.slice A n c) bs) : Src Try.prog 1 22 (.slice A n c) bs.length (nums .u8 bs) w := by
  obtain ⟨hn, hC⟩ := h.reads
  subst hn
  obtain ⟨A', c', he, h1, _⟩ := h.slice
  injection he with ha _ hc
  subst ha; subst hc
  exact src_of_C hC h1
set_option maxHeartbeats 400000 in
theorem clone_calls (w : World) (B : Nat) (v : Value) (bs : List Int) (h : DRow w B v bs) (hb : bs.length ≤ 1073741824) :
    Calls Try.prog 24 #[v] w fun e w' => ∃ v', e = .returned v' ∧ DRow w' w.heap.size v' bs ∧ Below w.heap.size w w' := by
  have H := Aside0.mk h
  rcases h with ⟨rfl, rfl⟩ | ⟨g, cap, cur, rfl, hB, hh, h1, h2, h3, h4⟩
  · have hq := Lib.run_eql_slice_nil (P := Try.prog) w 22 5 none 0 0 0 0 Try.underlying22
    clear hb
    go_enter Try.func24, Try.ntmps24
    go_wp2
    go_ret
    exact ⟨_, rfl, DRow.nil _ _, Below.refl _ _⟩
  · have hq := Lib.run_eql_slice_nil (P := Try.prog) w 22 5 (some ⟨g, 0, none⟩) bs.length cap 0 0 Try.underlying22
    have hlt : g < w.heap.size := (Array.getElem?_eq_some_iff.1 hh).1
    have HLT := Aside0.mk hlt
    have HB := Aside0.mk hb
    clear hb hh h1 h2 h3 h4 hlt
    go_enter Try.func24, Try.ntmps24
    go_wp2_with (at_builtin; refine wpList_append_d rfl _ _ rfl w.heap.size (.slice (some ⟨w.heap.size, 0, none⟩) 0 0) [] bs rfl (.inr ⟨w.heap.size, 0, #[], rfl, Nat.le_refl _, heap_alloc_new w _, Nat.le_refl _, Nat.zero_le _, Nat.zero_le _, rfl⟩) (.slice (some ⟨g, 0, none⟩) bs.length cap) rfl (src_of_D (H.out.move (fun k hk => Below.heap_alloc w _ k (by have : g = k := (by simpa [Value.ownBlock] using hk); subst this; exact HLT.out)))) (by have := HB.out; simp; omega) (by simp) ?_; intro v1 w1 hown hg hat; have HO := Aside0.mk hown; have HG := Aside0.mk hg; clear hown hg hat)
    go_ret
    refine ⟨_, rfl, HO.out, ?_⟩
    exact ((Below.refl _ _).alloc (Nat.le_refl _) _).grown HG.out (by simp) (fun k hk => by have : w.heap.size = k := (by simpa [Value.ownBlock] using hk); omega)
set_option maxHeartbeats 400000 in
theorem read_calls (w : World) (B : Nat) (s : DiskM) (h : DiskIs w B s) (g : Good s) (nm : ByteArray) (hs : nm.size ≤ maxLen) :
    Calls Try.prog 12 #[.pointer (some ⟨s.d, 0, none⟩), .string nm] w fun e w' => ∃ v, e = .returned (.tuple #[v, .bool (pRead s.abs nm.data.toList).2]) ∧ DRow w' w.heap.size v (pRead s.abs nm.data.toList).1 ∧ Below w.heap.size w w' := by
  have hl := look_at h nm hs
  have k0 := h.c0
  cases hg : getF nm.data.toList s.L with
  | none =>
    have hp : pRead s.abs nm.data.toList = ([], false) := by unfold pRead; rw [getP_none hg]
    have HP := Aside0.mk hp
    rw [hg] at hl
    simp only [ptrOf] at hl
    clear hg h g hp
    go_enter Try.func12, Try.ntmps12
    go_wp2
    go_ret2
    rw [HP.out]
    exact ⟨_, rfl, DRow.nil _ _, Below.refl _ _⟩
  | some f =>
    have hp : pRead s.abs nm.data.toList = (f.bs, true) := by unfold pRead; rw [getP_at hg]; rfl
    have HP := Aside0.mk hp
    rw [hg] at hl
    simp only [ptrOf] at hl
    have hm : f ∈ s.L := List.mem_of_find?_eq_some hg
    have hf0 := (h.file f hm).c0
    have HR := Aside0.mk (h.file f hm).row
    have hbl : f.bs.length ≤ 1073741824 := by
      have h1 := (bs_le g hm).1
      have h2 := g.u1
      have h3 := g.s1
      omega
    have HBL := Aside0.mk hbl
    clear hg h g hp hm hbl
    go_enter Try.func12, Try.ntmps12
    go_wp2_with (go_at_call 24; refine (clone_calls w B f.v f.bs HR.out HBL.out).mono ?_; rintro e w1 ⟨v1, rfl, hd, hb⟩; have HD := Aside0.mk hd; have HB := Aside0.mk hb; clear hd hb)
    go_ret2
    rw [HP.out]
    exact ⟨_, rfl, HD.out, HB.out⟩
end Go.Proofs.Ytlbeehefandfhaa.Pr
end
