/- The plain part of the laws on cells: two cells that are written alike are one. -/
import Derived.Test.YtjcaieecafggiaaPureCodeF
namespace Go.Proofs.Ytjcaieecafggiaa.Pure
open Go.RowKit Go.Proofs.Ytjcaieecafggiaa.Pr Go.Proofs.YtjcaieecafggiaaW.PrintWords Go.Proofs.YtjcaieecafggiaaW.PrintLast Go.Proofs.YtjcaieecafggiaaW.PrintMore
set_option linter.unusedVariables false
set_option linter.unusedSimpArgs false
theorem toList_inj {a b : ByteArray} (h : a.toList = b.toList) : a = b := by
  rw [Go.ByteArray.toList_eq, Go.ByteArray.toList_eq] at h
  exact Go.WideShapes.bytes_inj h
theorem strOfNums_inj {xs ys : List Int} (hx : Bts xs) (hy : Bts ys) (h : strOfNums xs = strOfNums ys) : xs = ys := by
  rw [← bytesOf_str hx, ← bytesOf_str hy, h]
/-- A cell of a kind that there is, and all within it. -/
def okc : Nat → S26 → Prop
  | 0, _ => False
  | k + 1, c => c.f0 = 0 ∨ c.f0 = 1 ∨ (c.f0 = 2 ∧ ∀ x ∈ c.f3, okc k x)
theorem fold_ok {g : S26 → List Int → Option (List Int × Int)} {ok : S26 → Prop} (hg : ∀ x xs ys, g x xs = some (ys, 0) → ok x) : ∀ (L : List S26) (xs ys : List Int), foldW g L xs = some (ys, 0) → ∀ x ∈ L, ok x
  | [], xs, ys, h, x, hx => by cases hx
  | y :: L, xs, ys, h, x, hx => by
    simp only [foldW] at h
    obtain ⟨⟨zs, e1⟩, h1, h2⟩ := Option.bind_eq_some_iff.mp h
    by_cases he : e1 = 0
    · subst he
      rw [if_pos rfl] at h2
      rcases List.mem_cons.1 hx with rfl | hx
      · exact hg _ _ _ h1
      · exact fold_ok hg L _ _ h2 x hx
    · rw [if_neg he] at h2
      simp only [Option.some.injEq, Prod.mk.injEq] at h2
      exact absurd h2.2 he
theorem wr_ok : ∀ (k : Nat) (c : S26) (deep : Nat) (xs ys : List Int), wrCell k c deep xs = some (ys, 0) → okc k c
  | 0, c, deep, xs, ys, h => by simp [wrCell] at h
  | k + 1, c, deep, xs, ys, h => by
    rw [okc]
    simp only [wrCell] at h
    by_cases h0 : c.f0 = 0
    · exact .inl h0
    · by_cases h1 : c.f0 = 1
      · exact .inr (.inl h1)
      · rw [if_neg h0, if_neg h1] at h
        by_cases h2 : c.f0 = 2
        · rw [if_pos h2] at h
          refine .inr (.inr ⟨h2, ?_⟩)
          split at h
          · simp at h
          · split at h
            · simp at h
            · split at h
              · exact fold_ok (fun x xs ys hx => wr_ok k x (deep + 1) xs ys hx) _ _ _ h
              · simp at h
        · rw [if_neg h2] at h; simp at h
theorem allC_of_map {n : S26 → S26} {f : S26 → S26 → Option Bool} : ∀ (L M : List S26), (∀ x ∈ L, ∀ y ∈ M, n x = n y → f x y = some true) → L.map n = M.map n → allC f L M = some true
  | [], M, h, e => by simp [allC]
  | x :: L, [], h, e => by simp at e
  | x :: L, y :: M, h, e => by
    rw [List.map_cons, List.map_cons] at e
    injection e with e1 e2
    simp only [allC, h x (List.mem_cons_self ..) y (List.mem_cons_self ..) e1, Option.bind_some, if_true]
    exact allC_of_map L M (fun a ha b hb => h a (List.mem_cons_of_mem _ ha) b (List.mem_cons_of_mem _ hb)) e2
theorem nrm_same : ∀ (k : Nat) (c d : S26), okc k c → okc k d → nrm k c = nrm k d → sameC k c d = some true
  | 0, c, d, hc, hd, h => hc.elim
  | k + 1, c, d, hc, hd, h => by
    rw [okc] at hc hd
    simp only [nrm] at h
    simp only [sameC]
    rcases hc with h0 | h1 | ⟨h2, hc⟩
    · rcases hd with g0 | g1 | ⟨g2, hd⟩
      · rw [if_pos h0, if_pos g0] at h
        injection h with _ e _ _
        rw [if_pos (by omega), if_pos h0, e, beq_self_eq_true]
      · rw [if_pos h0, if_neg (by omega), if_pos g1] at h
        injection h with e; omega
      · rw [if_pos h0, if_neg (by omega), if_neg (by omega)] at h
        injection h with e; omega
    · rcases hd with g0 | g1 | ⟨g2, hd⟩
      · rw [if_neg (by omega), if_pos h1, if_pos g0] at h
        injection h with e; omega
      · rw [if_neg (by omega), if_pos h1, if_neg (by omega), if_pos g1] at h
        injection h with _ _ e _
        rw [if_pos (by omega), if_neg (by omega), if_pos h1, e, beq_self_eq_true]
      · rw [if_neg (by omega), if_pos h1, if_neg (by omega), if_neg (by omega)] at h
        injection h with e; omega
    · rcases hd with g0 | g1 | ⟨g2, hd⟩
      · rw [if_neg (by omega), if_neg (by omega), if_pos g0] at h
        injection h with e; omega
      · rw [if_neg (by omega), if_neg (by omega), if_neg (by omega), if_pos g1] at h
        injection h with e; omega
      · rw [if_neg (by omega), if_neg (by omega), if_neg (by omega), if_neg (by omega)] at h
        injection h with _ _ _ e
        have hl : c.f3.length = d.f3.length := by simpa using congrArg List.length e
        rw [if_pos (by omega), if_neg (by omega), if_neg (by omega), if_pos h2, if_pos hl]
        exact allC_of_map _ _ (fun x hx y hy hxy => nrm_same k x y (hc x hx) (hd y hy) hxy) e
theorem foldW_same {f : S26 → S26 → Option Bool} {g : S26 → List Int → Option (List Int × Int)} (hg : ∀ x y, f x y = some true → ∀ xs, g x xs = g y xs) : ∀ (L M : List S26) (xs : List Int), L.length = M.length → allC f L M = some true → foldW g L xs = foldW g M xs
  | [], [], xs, hl, h => rfl
  | [], y :: M, xs, hl, h => by simp at hl
  | x :: L, [], xs, hl, h => by simp at hl
  | x :: L, y :: M, xs, hl, h => by
    simp only [allC] at h
    obtain ⟨r, h1, h2⟩ := Option.bind_eq_some_iff.mp h
    cases r with
    | false => simp at h2
    | true =>
      rw [if_pos rfl] at h2
      simp only [foldW, hg x y h1]
      congr 1
      funext r
      split
      · exact foldW_same hg L M _ (by simpa using hl) h2
      · rfl
theorem same_wr : ∀ (k : Nat) (c d : S26) (deep : Nat) (xs : List Int), sameC k c d = some true → wrCell k c deep xs = wrCell k d deep xs
  | 0, c, d, deep, xs, h => by simp [sameC] at h
  | k + 1, c, d, deep, xs, h => by
    simp only [sameC] at h
    by_cases he : c.f0 = d.f0
    · rw [if_pos he] at h
      simp only [wrCell, ← he]
      by_cases h0 : c.f0 = 0
      · rw [if_pos h0, Option.some.injEq, beq_iff_eq] at h
        simp only [if_pos h0, h]
      · rw [if_neg h0] at h
        by_cases h1 : c.f0 = 1
        · rw [if_pos h1, Option.some.injEq, beq_iff_eq] at h
          simp only [if_neg h0, if_pos h1, toList_inj h]
        · rw [if_neg h1] at h
          by_cases h2 : c.f0 = 2
          · rw [if_pos h2] at h
            by_cases hl : c.f3.length = d.f3.length
            · rw [if_pos hl] at h
              simp only [if_neg h0, if_neg h1, if_pos h2, hl]
              rw [foldW_same (fun x y hxy ys => same_wr k x y (deep + 1) ys hxy) _ _ _ hl h]
            · rw [if_neg hl] at h; simp at h
          · simp only [if_neg h0, if_neg h1, if_neg h2]
    · rw [if_neg he] at h; simp at h
theorem len_of_wfc : ∀ (k : Nat) (c : S26), wfc k c → len k c
  | 0, c, h => trivial
  | k + 1, c, h => ⟨by have := h.2.2.2.1; simpa only [maxLen] using this, fun x hx => len_of_wfc k x (h.2.2.2.2 x hx)⟩
end Go.Proofs.Ytjcaieecafggiaa.Pure
