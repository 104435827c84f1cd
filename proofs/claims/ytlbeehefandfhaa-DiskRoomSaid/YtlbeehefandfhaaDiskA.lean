/- A file's bytes in memory: a row of one's own, and what append makes of it. -/
import Derived.Test.YtlbeehefandfhaaProg
import Derived.Below
import Derived.Deep.Draws
import Derived.Deep.AppendLies
import Derived.Maps.AppendAt
import Derived.OwnWalk
import Derived.Laws.BytesArg
import Derived.Laws.MakeOwn
import Derived.Laws.OwnMore
import Derived.Deep.OwnRows
import Derived.Tactics
import Derived.Lib.ConvBytes
import Derived.Laws.Slices
import Derived.WalkKit
import Derived.KernelRfl
import Derived.RowKit3
import Derived.Deep.LoopGhost
import Derived.Deep.QuietTactic
import Derived.BigQuiet
import Derived.WideLaws
import Derived.Deep.DeepCutAuto
import Derived.Deep.CutBlock
import Derived.Deep.RegionHeld3
import Derived.Laws.Rows
import Derived.Lib.AppendStr
import Derived.ArgAppend
import Derived.Laws.IdiomCopy
import Derived.OrdersHeld
import Derived.Laws.BitsLemmas
import Derived.RowKit
import Derived.Test.YtlbeehefandfhaaWWords
import Derived.Test.YtlbeehefandfhaaWLast
import Derived.Test.YtlbeehefandfhaaWTab
import Derived.Test.YtlbeehefandfhaaWFour
import Derived.Test.YtlbeehefandfhaaWQPut
import Derived.Test.YtlbeehefandfhaaWApart
import Derived.Test.YtlbeehefandfhaaWArr
import Derived.Test.YtlbeehefandfhaaWZeros
import Derived.Test.YtlbeehefandfhaaWFoot
import Derived.Test.YtlbeehefandfhaaWKept
import Derived.Test.YtlbeehefandfhaaWShare
import Derived.Test.YtlbeehefandfhaaWN
import Derived.Test.YtlbeehefandfhaaWFootNe
import Derived.Test.YtlbeehefandfhaaWAt
import Derived.Test.YtlbeehefandfhaaWEqStruct
import Derived.Test.YtlbeehefandfhaaWRepsOne
import Derived.Test.YtlbeehefandfhaaWInv
import Derived.Test.YtlbeehefandfhaaWInvWords
import Derived.Test.YtlbeehefandfhaaWGuard
import Derived.Test.YtlbeehefandfhaaWNEv
import Derived.Test.YtlbeehefandfhaaWMore
import Derived.Deep.AppendSrc
import Derived.Maps.OwnSet
import Derived.StringKeys
import Derived.Sort.KeysCollected
namespace Go.Proofs.Ytlbeehefandfhaa.Pr
open Go.RowKit Go.Maps Go.Proofs.YtlbeehefandfhaaW.PrintWords Go.Proofs.YtlbeehefandfhaaW.PrintLast Go.Proofs.YtlbeehefandfhaaW.PrintMore
set_option linter.unusedVariables false
set_option linter.unusedSimpArgs false

/-- A file's bytes: a row of one's own, whose capacity may end ahead of its block. -/
def DRow (w : World) (B : Nat) (v : Value) (bs : List Int) : Prop :=
  (v = .slice none 0 0 ∧ bs = []) ∨ ∃ g cap cur, v = .slice (some ⟨g, 0, none⟩) bs.length cap ∧ B ≤ g ∧ w.heap[g]? = some (.cells cur 5 (0, 0)) ∧ bs.length ≤ cap ∧ cap ≤ maxLen ∧ cap ≤ cur.size ∧ cur.toList.take bs.length = nums .u8 bs
section
variable {w w1 : World} {B : Nat} {v : Value} {bs : List Int}
theorem DRow.nil (w : World) (B : Nat) : DRow w B (.slice none 0 0) [] := .inl ⟨rfl, rfl⟩
theorem DRow.typed (h : DRow w B v bs) (k : Nat) (hk : v.ownBlock = some k) : B ≤ k ∧ k < w.heap.size ∧ ∃ cur, w.heap[k]? = some (.cells cur 5 (0, 0)) := by
  rcases h with ⟨rfl, _⟩ | ⟨g, cap, cur, rfl, hb, hh, _⟩
  · simp [Value.ownBlock] at hk
  · have : g = k := by simpa [Value.ownBlock] using hk
    subst this
    exact ⟨hb, (Array.getElem?_eq_some_iff.1 hh).1, cur, hh⟩
theorem DRow.move (h : DRow w B v bs) (hm : ∀ k, v.ownBlock = some k → w1.heap[k]? = w.heap[k]?) : DRow w1 B v bs := by
  rcases h with h | ⟨g, cap, cur, rfl, hb, hh, r⟩
  · exact .inl h
  · exact .inr ⟨g, cap, cur, rfl, hb, (hm g (by simp [Value.ownBlock])).trans hh, r⟩
theorem DRow.slice (h : DRow w B v bs) : ∃ A c, v = .slice A bs.length c ∧ bs.length ≤ c ∧ c ≤ maxLen := by
  rcases h with ⟨rfl, rfl⟩ | ⟨g, cap, cur, rfl, hb, hh, h1, h2, _⟩
  · exact ⟨none, 0, rfl, Nat.le_refl _, Nat.zero_le _⟩
  · exact ⟨_, cap, rfl, h1, h2⟩
theorem DRow.reads {A : Option Addr} {n c : Nat} (h : DRow w B (.slice A n c) bs) : n = bs.length ∧ Kd.C (Kd.int .u8) w A bs.length bs := by
  rcases h with ⟨he, rfl⟩ | ⟨g, cap, cur, he, hb, hh, h1, h2, h3, h4⟩
  · injection he with ha hn hc
    exact ⟨hn, Kd.C_of_reads (d := (0 : Int)) ⟨rfl, by simp, fun h => by simp at h⟩⟩
  · injection he with ha hn hc
    subst ha
    refine ⟨hn, Kd.C_of_reads (d := (0 : Int)) ⟨rfl, by simp only [maxLen] at h2; omega, fun _ => ⟨_, rfl, fun j hj => ?_⟩⟩⟩
    rw [add_plain, cell_of_row w g j cur _ _ hh]
    have : (cur.toList.take bs.length)[j]? = (nums .u8 bs)[j]? := by rw [h4]
    rw [List.getElem?_take, if_pos hj] at this
    rw [← Array.getElem?_toList, this]
    simp [nums, List.getD_eq_getElem?_getD, List.getElem?_eq_getElem hj]
/-- A part from the front; its capacity may be any that is not greater. -/
theorem DRow.cut {A : Option Addr} {n c : Nat} (h : DRow w B (.slice A n c) bs) (m c' : Nat) (hm : m ≤ bs.length) (h1 : m ≤ c') (h2 : c' ≤ c) : DRow w B (.slice A m c') (bs.take m) := by
  rcases h with ⟨he, rfl⟩ | ⟨g, cap, cur, he, hb, hh, hl, hx, hz, ht⟩
  · injection he with ha hn hc
    subst ha; subst hc
    obtain rfl : m = 0 := by simpa using hm
    obtain rfl : c' = 0 := by omega
    exact .inl ⟨rfl, by simp⟩
  · injection he with ha hn hc
    subst ha; subst hc
    have hlen : (bs.take m).length = m := by rw [List.length_take]; omega
    refine .inr ⟨g, c', cur, by rw [hlen], hb, hh, by rw [hlen]; exact h1, by omega, by omega, ?_⟩
    rw [hlen]
    have : (cur.toList.take bs.length).take m = (nums .u8 bs).take m := by rw [ht]
    rw [List.take_take, Nat.min_eq_left hm] at this
    rw [this]
    simp [nums, List.map_take]
end
theorem src_of_C {w : World} {A : Option Addr} {l : List Int} {c : Nat} (h : Kd.C (Kd.int .u8) w A l.length l) (hc : l.length ≤ c) : Src Try.prog 1 22 (.slice A l.length c) l.length (nums .u8 l) w := by
  obtain ⟨h1, h2, h3⟩ := Kd.reads_of_C (d := (0 : Int)) h
  by_cases hl : 0 < l.length
  · obtain ⟨ad, rfl, hcell⟩ := h3 hl
    refine Src.ofSlice w Try.underlying22 ad l.length c (nums .u8 l) (by rw [nums_length, Nat.mul_one]) (fun j u hu => ?_) (fun u hu => ?_)
    · have hj : j < l.length := by
        have := (List.getElem?_eq_some_iff.1 hu).1
        rwa [nums_length] at this
      rw [hcell j hj]
      rw [← hu]
      simp [nums, List.getD_eq_getElem?_getD, List.getElem?_eq_getElem hj]
    · obtain ⟨x, _, rfl⟩ := List.mem_map.1 hu
      rfl
  · obtain rfl : l = [] := List.length_eq_zero_iff.1 (by omega)
    cases A with
    | none => exact Src.ofNil w Try.underlying22 c
    | some ad => exact Src.ofSlice w Try.underlying22 ad 0 c [] rfl (fun j u hu => by simp at hu) (fun u hu => by simp at hu)
theorem ni5 : (Try.prog.info? 5).map (fun i => (i.zero, i.size, i.bytes)) = some (some (.int .u8 0), 1, 1) := by kernel_rfl
/-- append onto a file's bytes. -/
theorem run_append_d (w : World) (B : Nat) (v : Value) (bs l : List Int) (hown : DRow w B v bs) (X : Value) (hs : Src Try.prog 1 22 X l.length (nums .u8 l) w) (hb : bs.length + l.length ≤ 140737488355328) (hB : B ≤ w.heap.size) (ty : TypeId) :
    ∃ v' w', (Builtin.append_ #[22, 22] ty #[v, X]).run Try.prog w = .ok v' w' ∧ DRow w' B v' (bs ++ l) ∧ w.grownBy w' v.ownBlock ∧ (v'.ownBlock = v.ownBlock ∨ v'.ownBlock = some w.heap.size) := by
  obtain ⟨i, hi, hz, hsz, hby⟩ := info_parts ni5
  have ht := Try.underlying22
  have hlen : (bs ++ l).length = bs.length + l.length := List.length_append
  rw [← hsz] at hs
  have grown : ∀ (old : Nat) (row : Option Nat), DRow (w.drew.alloc (.cells ((nums .u8 bs ++ nums .u8 l).toArray ++ Builtin.zeroCells (Value.int .u8 0).cells (grownCap w (bs.length + l.length) old 5 - (bs.length + l.length))) 5)) B
        (.slice (some ⟨w.heap.size, 0, none⟩) (bs.length + l.length) (grownCap w (bs.length + l.length) old 5)) (bs ++ l) ∧
      w.grownBy (w.drew.alloc (.cells ((nums .u8 bs ++ nums .u8 l).toArray ++ Builtin.zeroCells (Value.int .u8 0).cells (grownCap w (bs.length + l.length) old 5 - (bs.length + l.length))) 5)) row := by
    intro old row
    have hge := grownCap_ge w (bs.length + l.length) old 5
    have hcm : grownCap w (bs.length + l.length) old 5 ≤ maxLen := grownCap_le_maxLen w (bs.length + l.length) old 5 (by unfold maxLen; omega)
    refine ⟨.inr ⟨w.heap.size, _, _, by rw [hlen], hB, heap_alloc_new w.drew _, by rw [hlen]; exact hge, hcm, ?_, ?_⟩, ⟨rfl, rfl, rfl, by simp, fun k hk _ => Below.heap_alloc w.drew _ k hk⟩⟩
    · simp only [Array.size_append, List.size_toArray, size_zeroCells, List.length_append, nums_length]
      simp [Value.cells]
      omega
    · simp only [Array.toList_append, List.append_assoc]
      rw [← List.append_assoc, ← nums_append, List.take_left' (by rw [nums_length])]
  have grows : ∀ (A : Option Addr) (cap : Nat), cap < bs.length + l.length → v = .slice A bs.length cap → (Builtin.firstCells i.size bs.length (.slice A bs.length cap)).run Try.prog w.drew = .ok (nums .u8 bs).toArray w.drew →
      ∃ v' w', (Builtin.append_ #[22, 22] ty #[v, X]).run Try.prog w = .ok v' w' ∧ DRow w' B v' (bs ++ l) ∧ w.grownBy w' v.ownBlock ∧ (v'.ownBlock = v.ownBlock ∨ v'.ownBlock = some w.heap.size) := by
    intro A cap hcap hv hold
    have hr := run_append_grow_src (P := Try.prog) w 22 22 ty 5 i (.int .u8 0) ht hi hz A bs.length cap (nums .u8 bs) hold X l.length (nums .u8 l) hs hcap (by omega) (by rw [hby]; exact growslice_fits (by omega) (by omega))
    obtain ⟨g1, g2⟩ := grown cap v.ownBlock
    exact ⟨_, _, by rw [hv]; exact hr, g1, g2, .inr rfl⟩
  rcases hown with ⟨rfl, rfl⟩ | ⟨g, cap, cur, rfl, hbg, hg, hnc, hcm, hcs, htake⟩
  · by_cases hm : l.length = 0
    · have hl : l = [] := List.length_eq_zero_iff.1 hm
      subst hl
      refine ⟨.slice none 0 0, w, ?_, .inl ⟨rfl, rfl⟩, ⟨rfl, rfl, rfl, Nat.le_refl _, fun _ _ _ => rfl⟩, .inl rfl⟩
      have hl0 : ∀ w', (Builtin.lenOf (.slice none 0 0)).run Try.prog w' = .ok 0 w' := fun _ => rfl
      have hx0 := hs.len
      have hx1 := hs.cells
      simp only [List.length_nil] at hx0 hx1
      simp [Builtin.append_, run_underlying ht, sizeOf, typeInfo, hi, hx0, hx1, hl0, nums]
    · exact grows none 0 (by simp; omega) rfl (run_firstCells_none w.drew i.size 0 0 0)
  · by_cases hroom : bs.length + l.length ≤ cap
    · have hfit : bs.length + (nums .u8 l).length ≤ cur.size := by rw [nums_length]; omega
      have hr := run_append_room_src (P := Try.prog) w 22 22 ty 5 i ht hi g 0 bs.length cap X l.length (nums .u8 l) hs hroom
        (fun j hj => by rw [cell_of_row w g _ cur _ (0, 0) hg, hsz]; simp; omega) (fun j _ => blk_frozen hg _)
      rw [hsz, Nat.mul_one, Nat.zero_add] at hr
      obtain ⟨cur', h3, h4, h5⟩ := setCells_row (nums .u8 l) bs.length w cur hg hfit
      obtain ⟨s1, s2, s3, s4⟩ := setCells_same g (nums .u8 l) bs.length w
      refine ⟨_, _, hr, .inr ⟨g, cap, cur', by rw [hlen], hbg, h3, by rw [hlen]; exact hroom, hcm, by rw [h4]; exact hcs, ?_⟩,
        ⟨s1, s2, s3, by rw [s4]; exact Nat.le_refl _, fun k _ hk => setCells_far (nums .u8 l) _ k (fun he => hk (by rw [he]; simp [Value.ownBlock]))⟩, .inl rfl⟩
      rw [h5, htake, ← nums_append]
      exact List.take_left' (by rw [nums_length])
    · refine grows _ cap (by omega) rfl (run_firstCells_some w.drew i.size bs.length ⟨g, 0, none⟩ bs.length cap (nums .u8 bs) (by rw [nums_length, hsz, Nat.mul_one]) (fun j u hu => ?_))
      rw [add_plain]
      show w.cell? _ = _
      rw [cell_of_row w g _ cur _ (0, 0) hg]
      rw [← htake, List.getElem?_take] at hu
      split at hu
      · rw [← Array.getElem?_toList]
        exact hu
      · cases hu
/-- At the operation, for the walk. -/
theorem wpList_append_d {w : World} {ops : Array Oper} {rest : List Oper} {o : Oper} {a : Act} {Q : Exit → Act → World → Prop} (hgd : o.guard = none) (s x : Operand)
    (ho : o.op = .call { callee := .builtin .append, args := #[s, x], argTypes := #[22, 22] }) (B : Nat) (v : Value) (bs l : List Int) (hs : a.eval s = v) (hown : DRow w B v bs) (X : Value) (hx : a.eval x = X)
    (hsrc : Src Try.prog 1 22 X l.length (nums .u8 l) w) (hb : bs.length + l.length ≤ 140737488355328) (hB : B ≤ w.heap.size)
    (h : ∀ v' w', DRow w' B v' (bs ++ l) → w.grownBy w' v.ownBlock → (v'.ownBlock = v.ownBlock ∨ v'.ownBlock = some w.heap.size) → wpList Try.prog ops Q rest (a.put o.dst v') w') :
    wpList Try.prog ops Q (o :: rest) a w := by
  refine wpList_plain hgd fun K hK => ?_
  obtain ⟨v', w', hr, h2, h3, h4⟩ := run_append_d w B v bs l hown X hsrc hb hB o.type
  unfold Oper.wp execOp
  simp only [ho, resolve, invoke, builtin, Sem.run_bind, Sem.run_pure, Result.andThen_ok, List.map_toArray, List.map_cons, List.map_nil, hs, hx, hr]
  exact hK _ _ (h v' w' h2 h3 h4)
end Go.Proofs.Ytlbeehefandfhaa.Pr
