/- A cell that came in, opened: what its reading says of the memory. -/
import Derived.Test.YtjcaieecafggiaaPr0
import Derived.ChangeArms
import Derived.OpenShut
namespace Go.Proofs.Ytjcaieecafggiaa.Pr
open Go.RowKit Go.Proofs.YtjcaieecafggiaaW.PrintWords Go.Proofs.YtjcaieecafggiaaW.PrintLast Go.Proofs.YtjcaieecafggiaaW.PrintMore
set_option linter.unusedVariables false
set_option linter.unusedSimpArgs false
/-- Each field of a tree, so far down, is of its kind. -/
def wfc : Nat → S26 → Prop
  | 0, _ => True
  | k + 1, c => (Lit.int .i64 c.f0).wf = true ∧ (Lit.int .u64 c.f1).wf = true ∧ c.f2.size ≤ maxLen ∧ c.f3.length ≤ maxLen ∧ ∀ x ∈ c.f3, wfc k x
/-- Each text in a tree, so far down, is of a size that there can be. -/
def szc : Nat → S26 → Prop
  | 0, _ => True
  | k + 1, c => c.f2.size ≤ 140737488351232 ∧ ∀ x ∈ c.f3, szc k x
theorem weightsAll_mem {H : Type} {P : Program} {e : TypeId} : ∀ {l : List (DataW H)} {d : DataW H}, d ∈ l → ∀ n ∈ d.weights P e, n ∈ DataW.weightsAll P e l
  | [], d, hd, n, hn => by cases hd
  | x :: l, d, hd, n, hn => by
    rw [DataW.weightsAll]
    rcases List.mem_cons.1 hd with rfl | hd
    · exact List.mem_append_left _ hn
    · exact List.mem_append_right _ (weightsAll_mem hd n hn)
/-- A list, out of its elements. -/
theorem list_of {α : Type} {Q : Nat → α → Prop} : ∀ (n : Nat), (∀ i, i < n → ∃ x, Q i x) → ∃ L : List α, L.length = n ∧ ∀ i x, L[i]? = some x → Q i x
  | 0, _ => ⟨[], rfl, fun i x h => by simp at h⟩
  | n + 1, h => by
    obtain ⟨L, hl, hL⟩ := list_of n (fun i hi => h i (by omega))
    obtain ⟨x, hx⟩ := h n (by omega)
    refine ⟨L ++ [x], by simp [hl], fun i y hy => ?_⟩
    rcases Nat.lt_or_ge i L.length with hlt | hge
    · rw [List.getElem?_append_left hlt] at hy
      exact hL i y hy
    · have hi := (List.getElem?_eq_some_iff.1 hy).1
      rw [List.length_append, List.length_singleton] at hi
      have : i = n := by omega
      subst this
      rw [List.getElem?_append_right (by omega), hl, Nat.sub_self] at hy
      have : x = y := by simpa using hy
      subst this
      exact hx
theorem open_cells {H : Type} {enc : TypeId × Value → H} {w : World} : ∀ (fuel : Nat) (cs : List Value) (x : DataW H × List MemPlace), DataW.trod enc Try.prog w 0 (fun _ => true) true fuel 26 cs = some x →
    ∃ c : S26, k26.K w c cs ∧ (∀ j, wfc j c) ∧ ((∀ n ∈ x.1.weights Try.prog 26, n ≤ reachBytes) → ∀ j, szc j c) := by
  intro fuel
  induction fuel using Nat.strongRecOn with
  | _ fuel ih =>
  intro cs x h
  obtain ⟨xs, n, hn, rfl, hl, hlen, hf⟩ := DataW.trod_struct Try.underlying26 h
  have hl4 : cs.length = 4 := hl
  obtain ⟨v0, v1, v2, v3, rfl⟩ : ∃ v0 v1 v2 v3, cs = [v0, v1, v2, v3] := by
    match cs, hl4 with
    | [a, b, c, d], _ => exact ⟨a, b, c, d, rfl⟩
  have hxl : xs.length = 4 := hlen
  obtain ⟨y0, y1, y2, y3, rfl⟩ : ∃ y0 y1 y2 y3, xs = [y0, y1, y2, y3] := by
    match xs, hxl with
    | [a, b, c, d], _ => exact ⟨a, b, c, d, rfl⟩
  have g0 : DataW.trod enc Try.prog w 0 (fun _ => true) true n 3 [v0] = some y0 := hf 0 _ rfl
  have g1 : DataW.trod enc Try.prog w 0 (fun _ => true) true n 23 [v1] = some y1 := hf 1 _ rfl
  have g2 : DataW.trod enc Try.prog w 0 (fun _ => true) true n 9 [v2] = some y2 := hf 2 _ rfl
  have g3 : DataW.trod enc Try.prog w 0 (fun _ => true) true n 24 [v3] = some y3 := hf 3 _ rfl
  obtain ⟨K, e0, _, w0⟩ := DataW.trod_int Try.underlying3 g0
  obtain ⟨N, e1, _, w1⟩ := DataW.trod_int Try.underlying23 g1
  obtain ⟨S, e2, z2, w2⟩ := DataW.trod_string Try.underlying9 g2
  have hfs : ∀ n, n ∈ (y2.1.weights Try.prog 9) ∨ n ∈ (y3.1.weights Try.prog 24) → n ∈ DataW.weights Try.prog 26 (.agg [y0.1, y1.1, y2.1, y3.1]) := by
    intro n hn
    simp only [DataW.weights, Try.underlying26]
    show n ∈ DataW.weightsEach Try.prog [3, 23, 9, 24] [y0.1, y1.1, y2.1, y3.1]
    simp only [DataW.weightsEach, List.mem_append, List.append_nil]
    rcases hn with hn | hn
    · exact .inr (.inr (.inl hn))
    · exact .inr (.inr (.inr hn))
  have hS : (∀ n ∈ DataW.weights Try.prog 26 (.agg [y0.1, y1.1, y2.1, y3.1] : DataW H), n ≤ reachBytes) → S.size ≤ 140737488351232 := fun hall => by
    have := hall S.size (hfs _ (.inl (by rw [z2]; simp [DataW.weights, Array.length_toList])))
    exact this
  injection e0 with e0 _
  injection e1 with e1 _
  injection e2 with e2 _
  subst e0 e1 e2
  rcases DataW.trod_slice Try.underlying24 g3 with ⟨e3, _⟩ | ⟨a, len, cap, elems, rest, m, hm, e3, z3, _, hlc, hcap, hel, helem, _, _⟩
  · injection e3 with e3 _
    subst e3
    refine ⟨⟨K, N, S, []⟩, k26_mk w ⟨K, N, S, []⟩ (A3 := none) (c3 := 0) (Nat.le_refl _) (Kd.C_nil _ _), fun j => ?_, fun hall j => ?_⟩
    · cases j with
      | zero => trivial
      | succ j => exact ⟨w0, w1, w2, by simp, fun x hx => by cases hx⟩
    · cases j with
      | zero => trivial
      | succ j => exact ⟨hS hall, fun x hx => by cases hx⟩
  · injection e3 with e3 _
    subst e3
    have hex : ∀ i, i < len → ∃ c : S26, (∃ cs', k26.K w c cs' ∧ ∀ (j : Nat) (u : Value), cs'[j]? = some u → w.cell? (a.add (i * 4 + j)) = some u) ∧ (∀ j, wfc j c) ∧ ((∀ n ∈ DataW.weights Try.prog 26 (.agg [y0.1, y1.1, y2.1, y3.1] : DataW H), n ≤ reachBytes) → ∀ j, szc j c) := by
      intro i hi
      have h1 := helem i hi
      rw [List.getElem?_eq_getElem (by omega)] at h1
      obtain ⟨cs', h2, h3⟩ := Option.bind_eq_some_iff.mp h1
      obtain ⟨c, hK, hw, hz⟩ := ih m (by omega) cs' _ h3
      obtain ⟨_, h4, h5⟩ := World.cells?_some h2
      refine ⟨c, ⟨cs', hK, fun j u hu => ?_⟩, hw, fun hall => hz (fun n hn => hall n (hfs n (.inr ?_)))⟩
      rotate_left
      · rw [z3]
        simp only [DataW.weights, Try.underlying24]
        exact List.mem_cons_of_mem _ (List.mem_append_left _ (weightsAll_mem (List.mem_map_of_mem (List.getElem_mem _)) n hn))
      have hj : j < 4 := by have := (List.getElem?_eq_some_iff.1 hu).1; have := k26.K_len hK; have e4 : k26.sz = 4 := rfl; omega
      have hc4 : Try.prog.cellsOf 26 = 4 := by kernel_rfl
      rw [hc4] at h5
      have h6 := h5 j (by omega)
      rw [add_add] at h6
      exact h6.trans hu
    obtain ⟨L, hL, hLe⟩ := list_of len hex
    subst hL
    refine ⟨⟨K, N, S, L⟩, k26_mk w ⟨K, N, S, L⟩ (A3 := some a) (c3 := cap) hlc ?_, fun j => ?_, fun hall j => ?_⟩
    · refine ⟨rfl, by show L.length ≤ _; simp only [maxLen] at hcap; omega, fun _ => ⟨a, rfl, fun i p hp => ?_⟩⟩
      obtain ⟨⟨cs', hK, hc⟩, _⟩ := hLe i p hp
      exact ⟨cs', k26.K_len hK, hK, hc⟩
    · cases j with
      | zero => trivial
      | succ j =>
        refine ⟨w0, w1, w2, by show L.length ≤ _; omega, fun x hx => ?_⟩
        obtain ⟨i, hi⟩ := List.getElem?_of_mem hx
        exact (hLe i x hi).2.1 j
    · cases j with
      | zero => trivial
      | succ j =>
        refine ⟨hS hall, fun x hx => ?_⟩
        obtain ⟨i, hi⟩ := List.getElem?_of_mem hx
        exact (hLe i x hi).2.2 hall j
theorem open_cell {H : Type} {enc : TypeId × Value → H} {w : World} {r : Reach} {b0 : Nat} {v : Value} {d : DataW H} {ps : List MemPlace} (hval : Value.okWide Try.prog w r b0 26 v) (hd : DataW.Trod enc Try.prog w 0 (fun _ => true) true 26 v d ps) :
    ∃ (c : S26) (A : Option Addr) (cap : Nat), v = .agg #[.int .i64 c.f0, .int .u64 c.f1, .string c.f2, .slice A c.f3.length cap] ∧ Kd.C k26 w A c.f3.length c.f3 ∧ c.f3.length ≤ cap ∧ (∀ j, wfc j c) ∧ ((∀ n ∈ d.weights Try.prog 26, n ≤ reachBytes) → ∀ j, szc j c) := by
  obtain ⟨cs, rfl, hsz⟩ := Go.WideShapes.okWide_struct Try.underlying26 hval
  obtain ⟨fuel, hf⟩ := hd
  obtain ⟨c, hK, hw⟩ := open_cells fuel _ _ hf
  obtain ⟨A, cap, hcs, hle, hC⟩ := k26_open hK
  have hcs' : cs.toList = [.int .i64 c.f0, .int .u64 c.f1, .string c.f2, .slice A c.f3.length cap] := hcs
  refine ⟨c, A, cap, ?_, hC, hle, hw⟩
  congr 1
  exact Array.ext' (by simpa using hcs')
theorem open_cellrow {H : Type} {enc : TypeId × Value → H} {w : World} {a : Option Addr} {len cap : Nat} {d : DataW H} {ps : List MemPlace} (hd : DataW.Trod enc Try.prog w 0 (fun _ => true) true 24 (.slice a len cap) d ps) :
    ∃ L : List S26, len = L.length ∧ Kd.C k26 w a L.length L ∧ L.length ≤ cap ∧ L.length ≤ maxLen ∧ ∀ x ∈ L, ∀ j, wfc j x := by
  obtain ⟨fuel, hf⟩ := hd
  have hcs : (Value.slice a len cap).cells.toList = [.slice a len cap] := rfl
  rw [hcs] at hf
  rcases DataW.trod_slice Try.underlying24 hf with ⟨e3, _⟩ | ⟨ad, len', cap', elems, rest, m, hm, e3, z3, _, hlc, hcap, hel, helem, _, _⟩
  · injection e3 with e3 _
    injection e3 with e1 e2 e4
    subst e1 e2 e4
    exact ⟨[], rfl, Kd.C_nil _ _, by simp, by simp, fun x hx => by cases hx⟩
  · injection e3 with e3 _
    injection e3 with e1 e2 e4
    subst e1 e2 e4
    have hex : ∀ i, i < len → ∃ c : S26, (∃ cs', k26.K w c cs' ∧ ∀ (j : Nat) (u : Value), cs'[j]? = some u → w.cell? (ad.add (i * 4 + j)) = some u) ∧ ∀ j, wfc j c := by
      intro i hi
      have h1 := helem i hi
      rw [List.getElem?_eq_getElem (by omega)] at h1
      obtain ⟨cs', h2, h3⟩ := Option.bind_eq_some_iff.mp h1
      obtain ⟨c, hK, hw, _⟩ := open_cells _ cs' _ h3
      obtain ⟨_, h4, h5⟩ := World.cells?_some h2
      refine ⟨c, ⟨cs', hK, fun j u hu => ?_⟩, hw⟩
      have hj : j < 4 := by have := (List.getElem?_eq_some_iff.1 hu).1; have := k26.K_len hK; have e4 : k26.sz = 4 := rfl; omega
      have hc4 : Try.prog.cellsOf 26 = 4 := by kernel_rfl
      rw [hc4] at h5
      have h6 := h5 j (by omega)
      rw [add_add] at h6
      exact h6.trans hu
    obtain ⟨L, hL, hLe⟩ := list_of len hex
    subst hL
    refine ⟨L, rfl, ⟨rfl, by show L.length ≤ _; simp only [maxLen] at hcap; omega, fun _ => ⟨ad, rfl, fun i p hp => ?_⟩⟩, hlc, by omega, fun x hx => ?_⟩
    · obtain ⟨⟨cs', hK, hc⟩, _⟩ := hLe i p hp
      exact ⟨cs', k26.K_len hK, hK, hc⟩
    · obtain ⟨i, hi⟩ := List.getElem?_of_mem hx
      exact (hLe i x hi).2
end Go.Proofs.Ytjcaieecafggiaa.Pr
