/- The plain part of the laws on cells: two cells are one. -/
import Derived.Test.YtjcaieecafggiaaPureCodeB
import Derived.Test.YtjcaieecafggiaaPr3
namespace Go.Proofs.Ytjcaieecafggiaa.Pure
open Go.RowKit Go.Proofs.Ytjcaieecafggiaa.Pr Go.Proofs.YtjcaieecafggiaaW.PrintWords Go.Proofs.YtjcaieecafggiaaW.PrintLast Go.Proofs.YtjcaieecafggiaaW.PrintMore
set_option linter.unusedVariables false
set_option linter.unusedSimpArgs false
/-- A tree of so little depth. -/
def dep : Nat → S26 → Bool
  | 0, _ => false
  | k + 1, c => c.f3.all (dep k)
theorem dep_mono : ∀ (k : Nat) (c : S26), dep k c = true → dep (k + 1) c = true
  | 0, c, h => by simp [dep] at h
  | k + 1, c, h => by
    rw [dep] at h ⊢
    simp only [List.all_eq_true] at h ⊢
    exact fun x hx => dep_mono k x (h x hx)
theorem dep_le {k j : Nat} {c : S26} (h : dep k c = true) (hkj : k ≤ j) : dep j c = true := by
  obtain ⟨d, rfl⟩ := Nat.exists_eq_add_of_le hkj
  clear hkj
  induction d with
  | zero => exact h
  | succ d ih => exact dep_mono _ _ ih
theorem exists_dep (c : S26) : ∃ k, dep k c = true :=
  S26.rec (motive_1 := fun c => ∃ k, dep k c = true) (motive_2 := fun L => ∃ k, L.all (dep k) = true)
    (fun f0 f1 f2 f3 ih => by
      obtain ⟨k, hk⟩ := ih
      exact ⟨k + 1, hk⟩)
    ⟨0, rfl⟩
    (fun x L ih1 ih2 => by
      obtain ⟨k, hk⟩ := ih1
      obtain ⟨j, hj⟩ := ih2
      refine ⟨max k j, ?_⟩
      rw [List.all_cons, Bool.and_eq_true]
      refine ⟨dep_le hk (Nat.le_max_left _ _), ?_⟩
      simp only [List.all_eq_true] at hj ⊢
      exact fun y hy => dep_le (hj y hy) (Nat.le_max_right _ _)) c
theorem allC_some {k : Nat} {f : S26 → S26 → Option Bool} (hf : ∀ x y, dep k x = true → ∃ r, f x y = some r) : ∀ (L M : List S26), L.all (dep k) = true → ∃ r, allC f L M = some r
  | x :: L, y :: M, h => by
    rw [List.all_cons, Bool.and_eq_true] at h
    obtain ⟨r, hr⟩ := hf x y h.1
    simp only [allC, hr, Option.bind_some]
    split
    · exact allC_some hf L M h.2
    · exact ⟨_, rfl⟩
  | [], _, h => ⟨true, by simp [allC]⟩
  | _ :: _, [], h => ⟨true, by simp [allC]⟩
theorem sameC_some : ∀ (k : Nat) (a b : S26), dep k a = true → ∃ r, sameC k a b = some r
  | 0, a, b, h => by simp [dep] at h
  | k + 1, a, b, h => by
    rw [dep] at h
    simp only [sameC]
    split
    · split
      · exact ⟨_, rfl⟩
      · split
        · exact ⟨_, rfl⟩
        · split
          · split
            · exact allC_some (fun x y hx => sameC_some k x y hx) _ _ h
            · exact ⟨_, rfl⟩
          · exact ⟨_, rfl⟩
    · exact ⟨_, rfl⟩
theorem allC_refl {k : Nat} {f : S26 → S26 → Option Bool} (hf : ∀ x, dep k x = true → f x x = some true) : ∀ (L : List S26), L.all (dep k) = true → allC f L L = some true
  | [], h => rfl
  | x :: L, h => by
    rw [List.all_cons, Bool.and_eq_true] at h
    simp only [allC, hf x h.1, Option.bind_some, if_true]
    exact allC_refl hf L h.2
theorem sameC_refl : ∀ (k : Nat) (a : S26), dep k a = true → sameC k a a = some true
  | 0, a, h => by simp [dep] at h
  | k + 1, a, h => by
    rw [dep] at h
    simp only [sameC, if_true, allC_refl (fun x hx => sameC_refl k x hx) a.f3 h, beq_self_eq_true, ite_self]
/-- The reference tells the same. -/
theorem same_loop (K : Nat) (a b : S26) (hla : a.f3.length ≤ 9223372036854775807) (hlen : a.f3.length = b.f3.length)
    (ih : ∀ (x y : S26) (r : Bool), x ∈ a.f3 → y ∈ b.f3 → sameC K x y = some r → Ev (fun k => minstrelref07_Same.f k x.f0 x.f1 x.f2 x.f3 y.f0 y.f1 y.f2 y.f3) r) :
    ∀ (m n : Nat) (r : Bool), n + m = a.f3.length → allC (sameC K) (a.f3.drop n) (b.f3.drop n) = some r → Ev (fun k => minstrelref07_Same.l0 k (n : Int) a.f0 a.f1 a.f2 a.f3 b.f0 b.f1 b.f2 b.f3) r
  | 0, n, r, hn, h => by
    rw [List.drop_eq_nil_of_le (by omega)] at h
    simp only [allC, Option.some.injEq] at h
    subst h
    refine Ev.step (f := fun k => some true) (fun k => ?_) (Ev.now _)
    rw [minstrelref07_Same.l0, if_neg (by omega)]
  | m + 1, n, r, hn, h => by
    have hna : n < a.f3.length := by omega
    have hnb : n < b.f3.length := by omega
    rw [List.drop_eq_getElem_cons hna, List.drop_eq_getElem_cons hnb] at h
    simp only [allC] at h
    obtain ⟨r1, h1, h2⟩ := Option.bind_eq_some_iff.mp h
    have hx : rd_T26 a.f3 (n : Int) = a.f3[n] := rd_at _ n hna
    have hy : rd_T26 b.f3 (n : Int) = b.f3[n] := rd_at _ n hnb
    refine Ev.step (f := fun k => (minstrelref07_Same.f k (a.f3[n].f0) (a.f3[n].f1) (a.f3[n].f2) (a.f3[n].f3) (b.f3[n].f0) (b.f3[n].f1) (b.f3[n].f2) (b.f3[n].f3)).bind fun t134 => (if t134 = true then (minstrelref07_Same.l0 k ((n + 1 : Nat) : Int) a.f0 a.f1 a.f2 a.f3 b.f0 b.f1 b.f2 b.f3) else (some false))) (fun k => ?_) (Ev.bind (ih _ _ r1 (List.getElem_mem _) (List.getElem_mem _) h1) ?_)
    · rw [minstrelref07_Same.l0, if_pos (by omega), if_pos (by omega), if_pos (by omega), hx, hy, wrap64_in _ (by omega) (by omega)]
      rfl
    · cases r1 with
      | true =>
        rw [if_pos rfl] at h2
        simp only [if_true]
        exact same_loop K a b hla hlen ih m (n + 1) r (by omega) h2
      | false =>
        rw [if_neg (by decide)] at h2
        obtain rfl := Option.some.inj h2
        simp only [Bool.false_eq_true, if_false]
        exact Ev.now _
/-- Each row in it is one that there can be. -/
def len : Nat → S26 → Prop
  | 0, _ => True
  | k + 1, c => c.f3.length ≤ 9223372036854775807 ∧ ∀ x ∈ c.f3, len k x
theorem same_eq : ∀ (K : Nat) (a b : S26) (r : Bool), len K a → sameC K a b = some r → Ev (fun k => minstrelref07_Same.f k a.f0 a.f1 a.f2 a.f3 b.f0 b.f1 b.f2 b.f3) r
  | 0, a, b, r, hl, h => by simp [sameC] at h
  | K + 1, a, b, r, hl, h => by
    simp only [sameC] at h
    by_cases h0 : a.f0 = b.f0
    · rw [if_pos h0] at h
      by_cases h1 : a.f0 = 0
      · rw [if_pos h1] at h
        obtain rfl := Option.some.inj h
        refine Ev.step (f := fun k => some (a.f1 == b.f1)) (fun k => ?_) (Ev.now _)
        rw [minstrelref07_Same.f, if_pos h0, if_pos h1]
      · rw [if_neg h1] at h
        by_cases h2 : a.f0 = 1
        · rw [if_pos h2] at h
          obtain rfl := Option.some.inj h
          refine Ev.step (f := fun k => some (a.f2.toList == b.f2.toList)) (fun k => ?_) (Ev.now _)
          rw [minstrelref07_Same.f, if_pos h0, if_neg h1, if_pos h2]
        · rw [if_neg h2] at h
          by_cases h3 : a.f0 = 2
          · rw [if_pos h3] at h
            by_cases h4 : a.f3.length = b.f3.length
            · rw [if_pos h4] at h
              refine Ev.step (f := fun k => minstrelref07_Same.l0 k 0 a.f0 a.f1 a.f2 a.f3 b.f0 b.f1 b.f2 b.f3) (fun k => ?_) (same_loop K a b hl.1 h4 (fun x y r hx hy hr => same_eq K x y r (hl.2 x hx) hr) a.f3.length 0 r (by omega) h)
              rw [minstrelref07_Same.f, if_pos h0, if_neg h1, if_neg h2, if_pos h3, if_pos (by omega)]
            · rw [if_neg h4] at h
              obtain rfl := Option.some.inj h
              refine Ev.step (f := fun k => some false) (fun k => ?_) (Ev.now _)
              rw [minstrelref07_Same.f, if_pos h0, if_neg h1, if_neg h2, if_pos h3, if_neg (by omega)]
          · rw [if_neg h3] at h
            obtain rfl := Option.some.inj h
            refine Ev.step (f := fun k => some true) (fun k => ?_) (Ev.now _)
            rw [minstrelref07_Same.f, if_pos h0, if_neg h1, if_neg h2, if_neg h3]
    · rw [if_neg h0] at h
      obtain rfl := Option.some.inj h
      refine Ev.step (f := fun k => some false) (fun k => ?_) (Ev.now _)
      rw [minstrelref07_Same.f, if_neg h0]
theorem lives_true : minstrellaw07_lives.f 10 = some true := by kernel_rfl
theorem lives_ev : Ev (fun k => minstrellaw07_lives.f k) true := Ev.of minstrellaw07_lives.mono lives_true
end Go.Proofs.Ytjcaieecafggiaa.Pure
