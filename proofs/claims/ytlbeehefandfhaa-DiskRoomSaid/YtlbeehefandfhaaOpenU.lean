/- Rows of rows that came in, opened. -/
import Derived.Test.YtlbeehefandfhaaOpenT
namespace Go.Proofs.Ytlbeehefandfhaa.Pr
open Go.ChangeShapes Go.WideShapes Go.RowKit Go.Proofs.YtlbeehefandfhaaW.PrintWords Go.Proofs.YtlbeehefandfhaaW.PrintLast Go.Proofs.YtlbeehefandfhaaW.PrintMore
set_option linter.unusedVariables false
set_option linter.unusedSimpArgs false
set_option maxRecDepth 100000
theorem weightsAll_mem {H : Type} {P : Program} {e : TypeId} : ∀ {l : List (DataW H)} {d : DataW H}, d ∈ l → ∀ n ∈ d.weights P e, n ∈ DataW.weightsAll P e l
  | [], d, hd, n, hn => by cases hd
  | x :: l, d, hd, n, hn => by
    rw [DataW.weightsAll]
    rcases List.mem_cons.1 hd with rfl | hd
    · exact List.mem_append_left _ hn
    · exact List.mem_append_right _ (weightsAll_mem hd n hn)
/-- A list, out of its elements. -/
theorem list_of {α : Type} {Q : Nat → α → Prop} : ∀ (n : Nat), (∀ i, i < n → ∃ x, Q i x) → ∃ L : List α, L.length = n ∧ ∀ i x, L[i]? = some x → Q i x
  | 0, _ => ⟨[], rfl, fun i x h => by simp at h⟩
  | n + 1, h => by
    obtain ⟨L, hl, hL⟩ := list_of n (fun i hi => h i (by omega))
    obtain ⟨x, hx⟩ := h n (by omega)
    refine ⟨L ++ [x], by simp [hl], fun i y hy => ?_⟩
    rcases Nat.lt_or_ge i L.length with hlt | hge
    · rw [List.getElem?_append_left hlt] at hy
      exact hL i y hy
    · have hi := (List.getElem?_eq_some_iff.1 hy).1
      rw [List.length_append, List.length_singleton] at hi
      have : i = n := by omega
      subst this
      rw [List.getElem?_append_right (by omega), hl, Nat.sub_self] at hy
      have : x = y := by simpa using hy
      subst this
      exact hx
/-- A row of bytes with its size. -/
theorem open_brow_z {H : Type} {enc : TypeId × Value → H} {w : World} {fuel : Nat} {v : Value} {x : DataW H × List MemPlace} (h : DataW.trod enc Try.prog w 0 (fun _ => true) true fuel 22 [v] = some x) :
    ∃ (l : List Int) (A : Option Addr) (cap : Nat), v = .slice A l.length cap ∧ Kd.C (Kd.int .u8) w A l.length l ∧ l.length ≤ cap ∧ l.length ≤ maxLen ∧ (∀ n ∈ l, (Lit.int .u8 n).wf = true) ∧ ((∀ n ∈ x.1.weights Try.prog 22, n ≤ reachBytes) → l.length ≤ 140737488351232) := by
  rcases open_ints Try.underlying22 Try.underlying5 (by kernel_rfl) h with ⟨hcs, _⟩ | ⟨a, len, cap, zs, hcs, _, hl, hm, hz, hx, hcell, hwz⟩
  · injection hcs with hcs _
    exact ⟨[], none, 0, hcs, Kd.C_nil _ _, Nat.le_refl _, Nat.zero_le _, (fun n hn => by cases hn), fun _ => Nat.zero_le _⟩
  · injection hcs with hcs _
    have hz' : zs.length = cap := by simpa using hz
    obtain ⟨l, hlen, hr, hml, hwl, hc⟩ := ReadsInt.ofRowC (k := .u8) (w := w) (a := some a) (len := len) (cap := cap) (zs := zs) (.inr ⟨a, rfl, hl, hm, hz', hcell, hwz⟩)
    subst hlen
    refine ⟨l, some a, cap, hcs, Kd.C_of_reads (d := (0 : Int)) (h1 := fun _ => rfl) hr, hc, hml, hwl, fun hall => ?_⟩
    have h1 := hall ((zs.take l.length).length * 1 + (zs.drop l.length).length * 1) (by
      rw [hx]
      simp only [DataW.weights, Try.underlying22, lits, List.length_map]
      rw [show Try.prog.bytesOf 5 = 1 by kernel_rfl, ← Nat.add_mul]
      exact List.mem_cons_self)
    rw [← Nat.add_mul, ← List.length_append, List.take_append_drop, hz'] at h1
    have : cap * 1 ≤ 140737488351232 := h1
    omega
/-- A row of rows of bytes. -/
theorem open_rows {H : Type} {enc : TypeId × Value → H} {w : World} {a : Option Addr} {len cap : Nat} {d : DataW H} {ps : List MemPlace} (hd : DataW.Trod enc Try.prog w 0 (fun _ => true) true 37 (.slice a len cap) d ps) :
    ∃ L : List (List Int), len = L.length ∧ (Kd.slice 5 (Kd.int .u8)).C w a L.length L ∧ L.length ≤ cap ∧ cap ≤ maxLen ∧ ((∀ n ∈ d.weights Try.prog 37, n ≤ reachBytes) → ∀ x ∈ L, x.length ≤ 140737488351232) := by
  obtain ⟨fuel, hf⟩ := hd
  have hcs : (Value.slice a len cap).cells.toList = [.slice a len cap] := rfl
  rw [hcs] at hf
  rcases DataW.trod_slice Try.underlying37 hf with ⟨e3, _⟩ | ⟨ad, len', cap', elems, rest, m, hm, e3, z3, _, hlc, hcap, hel, helem, _, _⟩
  · injection e3 with e3 _
    injection e3 with e1 e2 e4
    subst e1 e2 e4
    exact ⟨[], rfl, Kd.C_nil _ _, by simp, by simp, fun _ x hx => by cases hx⟩
  · injection e3 with e3 _
    injection e3 with e1 e2 e4
    subst e1 e2 e4
    obtain ⟨rfl, -⟩ := Prod.mk.inj z3
    have hex : ∀ i, i < len → ∃ c : List Int, (∃ cs', (Kd.slice 5 (Kd.int .u8)).K w c cs' ∧ ∀ (j : Nat) (u : Value), cs'[j]? = some u → w.cell? (ad.add (i * 1 + j)) = some u) ∧ ((∀ n ∈ DataW.weights Try.prog 37 (.slice (elems.map (·.1)) (rest.map (·.1)) : DataW H), n ≤ reachBytes) → c.length ≤ 140737488351232) := by
      intro i hi
      have h1 := helem i hi
      rw [List.getElem?_eq_getElem (by omega)] at h1
      obtain ⟨cs', h2, h3⟩ := Option.bind_eq_some_iff.mp h1
      obtain ⟨h7, h4, h5⟩ := World.cells?_some h2
      have hc4 : Try.prog.cellsOf 22 = 1 := by kernel_rfl
      rw [hc4] at h4 h5
      obtain ⟨v, rfl⟩ : ∃ v, cs' = [v] := by
        match cs', h4 with
        | [v], _ => exact ⟨v, rfl⟩
      obtain ⟨l, A, c, rfl, hC, hlc', _, _, hz⟩ := open_brow_z h3
      refine ⟨l, ⟨_, ⟨A, c, rfl, hlc', hC⟩, fun j u hu => ?_⟩, fun hall => hz (fun n hn => hall n ?_)⟩
      · have hj : j < 1 := (List.getElem?_eq_some_iff.1 hu).1
        have h6 := h5 j (by omega)
        rw [add_add] at h6
        exact h6.trans hu
      · simp only [DataW.weights, Try.underlying37]
        exact List.mem_cons_of_mem _ (List.mem_append_left _ (weightsAll_mem (List.mem_map_of_mem (List.getElem_mem _)) n hn))
    obtain ⟨L, hL, hLe⟩ := list_of len hex
    subst hL
    refine ⟨L, rfl, ⟨rfl, by show L.length ≤ _; simp only [maxLen] at hcap; omega, fun _ => ⟨ad, rfl, fun i p hp => ?_⟩⟩, hlc, hcap, fun hall x hx => ?_⟩
    · obtain ⟨⟨cs', hK, hc⟩, _⟩ := hLe i p hp
      exact ⟨cs', (Kd.slice 5 (Kd.int .u8)).K_len hK, hK, hc⟩
    · obtain ⟨i, hi⟩ := List.getElem?_of_mem hx
      exact (hLe i x hi).2 hall
end Go.Proofs.Ytlbeehefandfhaa.Pr
