/- The plain law of CodeMakes. -/
import Derived.Test.YtjcaieecafggiaaPureCodeH
import Derived.Test.YtjcaieecafggiaaPrM
namespace Go.Proofs.Ytjcaieecafggiaa.Pure
open Go.RowKit Go.Proofs.Ytjcaieecafggiaa.Pr Go.Proofs.YtjcaieecafggiaaW.PrintWords Go.Proofs.YtjcaieecafggiaaW.PrintLast Go.Proofs.YtjcaieecafggiaaW.PrintMore
set_option linter.unusedVariables false
set_option linter.unusedSimpArgs false
theorem fits_of : ∀ (K : Nat) (c : S26), dep K c = true → lenB K c → fits K c = true
  | 0, c, h, hl => by simp [dep] at h
  | K + 1, c, h, hl => by
    rw [dep] at h
    simp only [List.all_eq_true] at h
    rw [fits, Bool.and_eq_true]
    refine ⟨decide_eq_true (by have := hl.1; omega), ?_⟩
    simp only [List.all_eq_true]
    exact fun x hx => fits_of K x (h x hx) (hl.2 x hx)
theorem list_ev {K : Nat} {l : List S26} (h : fits K ⟨2, 0, ⟨#[]⟩, l⟩ = true) : Ev (fun k => code_List.f k l) (2, 0, ⟨#[]⟩, l) :=
  Ev.of (fun k => code_List.mono l k) (k := K) (by unfold code_List.f; rw [if_pos h])
theorem same_self {K : Nat} (c : S26) (hd : dep K c = true) (hl : len K c) : Ev (fun k => minstrelref07_Same.f k c.f0 c.f1 c.f2 c.f3 c.f0 c.f1 c.f2 c.f3) true := same_eq K c c true hl (sameC_refl K c hd)
theorem CodeMakes (a0 : Int) (a1 : ByteArray) (l2 : List S26) (_h0 : (Lit.int .u64 a0).wf = true) (_h1 : a1.size ≤ 140737488351232) (hl : l2.length ≤ maxLen) (hw : ∀ x ∈ l2, ∀ j, wfc j x) : ∃ k, minstrellaw07_CodeMakes.f k a0 a1 l2 = some true := by
  apply Ev.rounds
  have hll := lives_ev
  have j0true : Ev (fun k => minstrellaw07_CodeMakes.j0 k a0 a1 l2 true) true := by
    refine Ev.step (f := fun k => (minstrellaw07_lives.f k).bind fun t168 => (some t168)) (fun k => ?_) (Ev.bind hll (Ev.now _))
    rw [minstrellaw07_CodeMakes.j0, if_pos rfl]
  by_cases h50 : (l2.length : Int) > 50
  · exact Ev.congr (fun k => by unfold minstrellaw07_CodeMakes.f; rw [if_pos h50]) j0true
  · have hwc : ∀ j, wfc j (⟨2, 0, ⟨#[]⟩, l2⟩ : S26) := fun j => by
      cases j with
      | zero => trivial
      | succ j => exact ⟨by show (Lit.int .i64 2).wf = true; decide, by show (Lit.int .u64 0).wf = true; decide, by simp [ByteArray.size], hl, fun x hx => hw x hx j⟩
    obtain ⟨ok, hs, hok⟩ := small_top ⟨2, 0, ⟨#[]⟩, l2⟩ hwc
    refine Ev.congr (f := fun k => (minstrellaw07_small.f k 2 0 (⟨#[]⟩ : ByteArray) l2).bind fun t167 => (minstrellaw07_CodeMakes.j0 k a0 a1 l2 (!t167))) (fun k => by unfold minstrellaw07_CodeMakes.f; rw [if_neg h50]) (Ev.bind hs ?_)
    cases ok with
    | false => simpa only [Bool.not_false] using j0true
    | true =>
      obtain ⟨K, hd, hB⟩ := hok rfl
      have hfin : Ev (fun k => (code_List.f k l2).bind fun bt182 => ((minstrelref07_List.f l2).bind fun bt189 => ((minstrelref07_Same.f k bt182.1 bt182.2.1 bt182.2.2.1 bt182.2.2.2 bt189.1 bt189.2.1 bt189.2.2.1 bt189.2.2.2).bind fun t195 => (if t195 = true then ((code_Number.f a0).bind fun bt196 => ((minstrelref07_Number.f a0).bind fun bt202 => ((minstrelref07_Same.f k bt196.1 bt196.2.1 bt196.2.2.1 bt196.2.2.2 bt202.1 bt202.2.1 bt202.2.2.1 bt202.2.2.2).bind fun t208 => (if t208 = true then ((code_Text.f a1).bind fun bt209 => ((minstrelref07_Text.f a1).bind fun bt215 => ((minstrelref07_Same.f k bt209.1 bt209.2.1 bt209.2.2.1 bt209.2.2.2 bt215.1 bt215.2.1 bt215.2.2.1 bt215.2.2.2).bind fun t221 => (if t221 = true then ((minstrellaw07_lives.f k).bind fun t222 => (some t222)) else (some false))))) else (some false))))) else (some false))))) true := by
        refine Ev.bind (list_ev (fits_of K _ hd hB)) ?_
        simp only [minstrelref07_List.f, Option.bind_some]
        refine Ev.bind (same_self (K := K) ⟨2, 0, ⟨#[]⟩, l2⟩ hd (len_of_wfc K _ (hwc K))) ?_
        simp only [if_true, code_Number.f, minstrelref07_Number.f, Option.bind_some]
        refine Ev.bind (same_self (K := 1) ⟨0, a0, ⟨#[]⟩, []⟩ (by simp [dep]) ⟨by simp, fun x hx => by cases hx⟩) ?_
        simp only [if_true, code_Text.f, minstrelref07_Text.f, Option.bind_some]
        refine Ev.bind (same_self (K := 1) ⟨1, 0, a1, []⟩ (by simp [dep]) ⟨by simp, fun x hx => by cases hx⟩) ?_
        simp only [if_true]
        exact Ev.bind hll (Ev.now _)
      have hloop : ∀ (m n : Nat), n + m = l2.length → Ev (fun k => minstrellaw07_CodeMakes.l0 k a0 a1 l2 (l2.take n) (n : Int)) true := by
        intro m
        induction m with
        | zero =>
          intro n hn
          refine Ev.step (fun k => ?_) hfin
          rw [minstrellaw07_CodeMakes.l0, if_neg (by omega), List.take_of_length_le (by omega)]
        | succ m ih =>
          intro n hn
          have hna : n < l2.length := by omega
          have hrd : rd_T26 l2 (n : Int) = l2[n] := rd_at _ n hna
          have hown : Ev (fun k => minstrelref07_Own.f k l2[n].f0 l2[n].f1 l2[n].f2 l2[n].f3) (l2[n].f0, l2[n].f1, l2[n].f2, l2[n].f3) := by
            cases K with
            | zero => simp [dep] at hd
            | succ K =>
              rw [dep] at hd
              simp only [List.all_eq_true] at hd
              exact own_ev K _ (hd _ (List.getElem_mem hna)) (hB.2 _ (List.getElem_mem hna))
          have A : Aside0 (wrap64 ((n : Int) + 1) = ((n + 1 : Nat) : Int)) := ⟨wrap64_in _ (by omega) (by omega)⟩
          refine Ev.step (f := fun k => (minstrelref07_Own.f k (l2[n].f0) (l2[n].f1) (l2[n].f2) (l2[n].f3)).bind fun bt173 => (if (l2.take n).length < 2513169434916 then (minstrellaw07_CodeMakes.l0 k a0 a1 l2 (l2.take n ++ [(⟨bt173.1, bt173.2.1, bt173.2.2.1, bt173.2.2.2⟩ : S26)]) ((n + 1 : Nat) : Int)) else (none))) (fun k => ?_) (Ev.bind hown ?_)
          · rw [minstrellaw07_CodeMakes.l0, if_pos (by omega), if_pos (by omega), hrd, A.out]
          · simp only [if_pos (show (l2.take n).length < 2513169434916 by rw [List.length_take]; omega)]
            have := ih (n + 1) (by omega)
            rw [List.take_succ_eq_append_getElem hna] at this
            rw [eta26]
            exact this
      refine Ev.step (f := fun k => minstrellaw07_CodeMakes.l0 k a0 a1 l2 [] 0) (fun k => by rw [Bool.not_true, minstrellaw07_CodeMakes.j0, if_neg (by decide)]) ?_
      exact hloop l2.length 0 (by omega)
end Go.Proofs.Ytjcaieecafggiaa.Pure
