/- The disk as lists and numbers: what a crash fills. -/
import Derived.Test.YtlbeehefandfhaaDiskQ
namespace Go.Proofs.Ytlbeehefandfhaa.Pr
set_option linter.unusedVariables false
set_option linter.unusedSimpArgs false
theorem fillL_append (size : Int) (tail : List Int) (keep : Int) : ∀ (A C : List PF) (u : Int), fillL size tail keep (A ++ C) u = fillL size tail keep A u ++ fillL size tail keep C (fillU size tail A u)
  | [], C, u => rfl
  | f :: r, C, u => by
    simp only [List.cons_append, fillL, fillU]
    split
    · rw [fillL_append size tail keep r C]; rfl
    · rw [fillL_append size tail keep r C]; rfl
theorem fillU_append (size : Int) (tail : List Int) : ∀ (A C : List PF) (u : Int), fillU size tail (A ++ C) u = fillU size tail C (fillU size tail A u)
  | [], C, u => rfl
  | f :: r, C, u => by
    simp only [List.cons_append, fillU]
    split
    · rw [fillU_append size tail r C]
    · rw [fillU_append size tail r C]
theorem fill_still (size : Int) (tail : List Int) (keep : Int) : ∀ (C : List PF) (u : Int), (∀ f ∈ C, isTorn f = false) → fillL size tail keep C u = C ∧ fillU size tail C u = u
  | [], u, _ => ⟨rfl, rfl⟩
  | f :: r, u, h => by
    obtain ⟨h1, h2⟩ := fill_still size tail keep r u (fun g hg => h g (List.mem_cons_of_mem _ hg))
    simp only [fillL, fillU, h f (by simp)]
    simp only [Bool.false_eq_true, if_false]
    rw [h1, h2]
    exact ⟨rfl, rfl⟩
theorem tear_still {keep : Int} {f : PF} (h : isTorn f = false) : tear keep f = f := by
  unfold isTorn at h
  have : f.bs.length = f.fast := by simpa using h
  unfold tear
  rw [if_pos this]
theorem tear_torn {keep : Int} {f : PF} (h : isTorn f = true) : tear keep f = { f with bs := f.bs.take (keptN keep f) } := by
  unfold isTorn at h
  have : ¬ f.bs.length = f.fast := by simpa using h
  unfold tear
  rw [if_neg this]
theorem keptN_le {keep : Int} {f : PF} (h : f.fast ≤ f.bs.length) : f.fast ≤ keptN keep f ∧ keptN keep f ≤ f.bs.length ∧ (keptN keep f : Int) = f.fast + min (max keep 0) ((f.bs.length : Int) - f.fast) := by
  unfold keptN
  omega
theorem tear_len {keep : Int} {f : PF} (h : f.fast ≤ f.bs.length) : (tear keep f).bs.length ≤ f.bs.length ∧ f.fast ≤ (tear keep f).bs.length ∧ (tear keep f).fast = f.fast ∧ (tear keep f).name = f.name := by
  cases ht : isTorn f with
  | false => rw [tear_still ht]; exact ⟨Nat.le_refl _, h, rfl, rfl⟩
  | true =>
    rw [tear_torn ht]
    obtain ⟨h1, h2, _⟩ := keptN_le (keep := keep) h
    have hl : (f.bs.take (keptN keep f)).length = keptN keep f := by rw [List.length_take]; omega
    refine ⟨?_, ?_, rfl, rfl⟩
    · show (f.bs.take (keptN keep f)).length ≤ _
      omega
    · show _ ≤ (f.bs.take (keptN keep f)).length
      omega
end Go.Proofs.Ytlbeehefandfhaa.Pr
